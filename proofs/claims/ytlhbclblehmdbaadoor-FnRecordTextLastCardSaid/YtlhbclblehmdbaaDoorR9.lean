/- The program's line of a record. -/
import Derived.Test.YtlhbclblehmdbaaDoorR8
set_option linter.unusedVariables false
set_option linter.unusedSimpArgs false
namespace Go.Proofs.YtlhbclblehmdbaaDoor.PFnRecordTextLast
open Go.RowKit Go.Proofs.YtlhbclblehmdbaaDoorW.PrintWords Go.Proofs.YtlhbclblehmdbaaDoorW.PrintLast Go.Proofs.YtlhbclblehmdbaaDoorW.PrintMore

theorem join_rec (o t : Int) (hk : Bool) (k : List Int) (hv : Bool) (v : List Int) : Lib.join (([⟨(Lib.itoa o).toArray⟩, ⟨(Lib.itoa t).toArray⟩, ⟨(partL hk k).toArray⟩, ⟨(partL hv v).toArray⟩] : List ByteArray).map (·.data.toList)) [32] = recL o t hk k hv v := by
  unfold recL
  simp [Lib.join]
theorem words_eq {k : Nat} {a0_0 a0_1 : Int} {a0_2 : Bool} {l0_3 : List Int} {a0_4 : Bool} {l0_5 : List Int} {ws : List ByteArray} (h : impl_recordWords.f k a0_0 a0_1 a0_2 l0_3 a0_4 l0_5 = some ws) : ws = [⟨(Lib.itoa a0_0).toArray⟩, ⟨(Lib.itoa a0_1).toArray⟩, ⟨(partL a0_2 l0_3).toArray⟩, ⟨(partL a0_4 l0_5).toArray⟩] ∧ inOff a0_0 = true ∧ inOff a0_1 = true ∧ pOk l0_3 ∧ pOk l0_5 := by
  unfold impl_recordWords.f strconv_Itoa.f impl_partText.f at h
  by_cases c1 : inOff a0_0 = true
  · by_cases c2 : inOff a0_1 = true
    · by_cases c3 : pOkB l0_3 = true
      · by_cases c4 : pOkB l0_5 = true
        · by_cases c5 : impl_allBytes.f k l0_3 = some true
          · by_cases c6 : impl_allBytes.f k l0_5 = some true
            · rw [if_pos c1, if_pos c2, if_pos c3, if_pos c4, if_pos c5, if_pos c6] at h
              exact ⟨(Option.some.inj h).symm, c1, c2, pOkB_iff.1 c3, pOkB_iff.1 c4⟩
            · rw [if_pos c1, if_pos c2, if_pos c3, if_pos c4, if_pos c5, if_neg c6] at h; cases h
          · rw [if_pos c1, if_pos c2, if_pos c3, if_neg c5] at h; cases h
        · by_cases c5 : impl_allBytes.f k l0_3 = some true
          · rw [if_pos c1, if_pos c2, if_pos c3, if_neg c4, if_pos c5] at h; cases h
          · rw [if_pos c1, if_pos c2, if_pos c3, if_neg c5] at h; cases h
      · rw [if_pos c1, if_pos c2, if_neg c3] at h; cases h
    · rw [if_pos c1, if_neg c2] at h; cases h
  · rw [if_neg c1] at h; cases h
theorem rec_length {o t : Int} {hk hv : Bool} {k v : List Int} (ho : inOff o = true) (ht : inOff t = true) (hpk : pOk k) (hpv : pOk v) : (recL o t hk k hv v).length ≤ 1000 := by
  unfold inOff at ho ht
  simp only [Bool.and_eq_true, decide_eq_true_eq] at ho ht
  have h1 := itoa_length o ho.1 ho.2
  have h2 := itoa_length t ht.1 ht.2
  have h3 := partL_length hk k hpk
  have h4 := partL_length hv v hpv
  unfold recL
  simp only [List.length_append, List.length_cons]
  omega

theorem strs_own {w : World} {base : Nat} {v : Value} {ws : List ByteArray} {s1 s2 s3 s4 : ByteArray} (hw : ws = [s1, s2, s3, s4]) (h : Kd.R Kd.string 9 w base (fun _ => True) v ws) : ∃ g c, v = .slice (some ⟨g, 0, none⟩) ws.length c ∧ g < w.heap.size ∧ (∀ (j : Nat) x, ws[j]? = some x → w.cell? ⟨g, 0 + j, none⟩ = some (.string x)) ∧ ws.length ≤ c := by
  have ho := Kd.own_of_R h
  rcases ho.2 with ⟨_, h0⟩ | ⟨g, cap, cur, rfl, hb, hg, hn, hm, hsz, ht⟩
  · rw [hw] at h0; cases h0
  · refine ⟨g, cap, rfl, (Array.getElem?_eq_some_iff.1 hg).1, fun j x hj => ?_, hn⟩
    rw [Nat.zero_add, cell_of_row w g j cur 9 (0, 0) hg]
    have hl : j < ws.length := (List.getElem?_eq_some_iff.1 hj).1
    have he : (encs Value.string ws)[j]? = some (.string x) := by unfold encs; rw [List.getElem?_map, hj]; rfl
    rw [← ht, List.getElem?_take, if_pos (by omega)] at he
    simpa using he

set_option maxHeartbeats 4000000 in
set_option maxRecDepth 100000 in
theorem line_text.calls (k : Nat) (a0_0 : Int) (a0_1 : Int) (a0_2 : Bool) (A0_3 : Option Addr) (c0_3 : Nat) (l0_3 : List Int) (a0_4 : Bool) (A0_5 : Option Addr) (c0_5 : Nat) (l0_5 : List Int) (ws : List ByteArray) (w : World) (hr0_3 : Kd.C (Kd.int .i64) w A0_3 l0_3.length l0_3) (hc0_3 : l0_3.length ≤ c0_3) (hr0_5 : Kd.C (Kd.int .i64) w A0_5 l0_5.length l0_5) (hc0_5 : l0_5.length ≤ c0_5) (tab : TabOk w) (h : impl_recordWords.f k a0_0 a0_1 a0_2 l0_3 a0_4 l0_5 = some ws) :
    Calls Tryd.prog 32 #[.agg #[.int .i64 a0_0, .int .i64 a0_1, .bool a0_2, .slice A0_3 l0_3.length c0_3, .bool a0_4, .slice A0_5 l0_5.length c0_5, .func (.func 31) #[] #[]]] w fun e w' => e = .returned (.string ⟨(recL a0_0 a0_1 a0_2 l0_3 a0_4 l0_5).toArray⟩) ∧ Below w.heap.size w w' := by
  have hu41 := Tryd.underlying41
  have hu64 := Tryd.underlying64
  have HR3 := Aside0.mk hr0_3
  have HC3 := Aside0.mk hc0_3
  have HR5 := Aside0.mk hr0_5
  have HC5 := Aside0.mk hc0_5
  have HTAB := Aside0.mk tab
  have HB := Aside0.mk (Below.refl w.heap.size w)
  have HWS := Aside0.mk h
  clear hr0_3 hc0_3 hr0_5 hc0_5 tab h
  go_enter Tryd.func32, Tryd.ntmps32
  go_wp2_with (first
    | ((with_reducible refine gate_dst (N := 1) rfl ?_); refine box_event ?hg (N := 1) ?hd (cs := #[.int .i64 a0_0, .int .i64 a0_1, .bool a0_2, .slice A0_3 l0_3.length c0_3, .bool a0_4, .slice A0_5 l0_5.length c0_5, .func (.func 31) #[] #[]]) (t := 64) ?hr ?_; (case hd => rfl); (case hg => rfl); (case hr => first | (go_simp; done) | (go_simp; rfl)); intro gb hg w1 hbox hb; have HB1 := Aside0.mk (below_step HB.out hb); have BK := Aside0.mk hbox; clear hb hbox hg; have x0 : w1.cell? ⟨gb, 0, none⟩ = some (.int .i64 a0_0) := blk_cell BK.out 0; have x1 : w1.cell? ⟨gb, 1, none⟩ = some (.int .i64 a0_1) := blk_cell BK.out 1; have x2 : w1.cell? ⟨gb, 2, none⟩ = some (.bool a0_2) := blk_cell BK.out 2; have x3 : w1.cell? ⟨gb, 3, none⟩ = some (.slice A0_3 l0_3.length c0_3) := blk_cell BK.out 3; have x4 : w1.cell? ⟨gb, 4, none⟩ = some (.bool a0_4) := blk_cell BK.out 4; have x5 : w1.cell? ⟨gb, 5, none⟩ = some (.slice A0_5 l0_5.length c0_5) := blk_cell BK.out 5; have x6 : w1.cell? ⟨gb, 6, none⟩ = some (.func (.func 31) #[] #[]) := blk_cell BK.out 6)
    | (go_at_call 31; refine (impl_recordWords.calls k a0_0 a0_1 a0_2 _ _ l0_3 a0_4 _ _ l0_5 ws _ (Kd.C_below HR3.out HB1.out) HC3.out (Kd.C_below HR5.out HB1.out) HC5.out (tab_below HTAB.out HB1.out) HWS.out).mono ?_; rintro e w2 ⟨v2, rfl, h2, hb⟩; obtain ⟨g, c, rfl, hgw, hcell, hcap⟩ := strs_own (words_eq HWS.out).1 h2; have HB2 := Aside0.mk (below_step HB1.out hb); have HG := Aside0.mk hgw; have HCE := Aside0.mk hcell; have HCA := Aside0.mk hcap; clear hgw hcell hcap hb h2 x0 x1 x2 x3 x4 x5 x6)
    | (go_at_call 55; refine (Sh.strings_Join g 0 c ws ⟨#[32]⟩ _ HCE.out HG.out (by rw [(words_eq HWS.out).1]; simp) HCA.out (by rw [(words_eq HWS.out).1]; have h := rec_length (words_eq HWS.out).2.1 (words_eq HWS.out).2.2.1 (words_eq HWS.out).2.2.2.1 (words_eq HWS.out).2.2.2.2 (hk := a0_2) (hv := a0_4); rw [← join_rec] at h; exact Nat.le_trans h (by decide))).mono ?_; rintro e w3 ⟨rfl, hb⟩; have HB3 := Aside0.mk (below_step HB2.out hb); clear hb))
  go_ret
  refine ⟨?_, HB3.out⟩
  rw [← join_rec, ← (words_eq HWS.out).1]
  rfl

/-- What the program's line of a record answers. -/
def impl_RecordText.f (k : Nat) (a0_0 : Int) (a0_1 : Int) (a0_2 : Bool) (l0_3 : List Int) (a0_4 : Bool) (l0_5 : List Int) : Option ByteArray := (impl_RecordValid.f k a0_0 a0_1 a0_2 l0_3 a0_4 l0_5).bind fun t => if t = true then ((impl_recordWords.f k a0_0 a0_1 a0_2 l0_3 a0_4 l0_5).bind fun _ => some ⟨(recL a0_0 a0_1 a0_2 l0_3 a0_4 l0_5).toArray⟩) else some ⟨#[]⟩
theorem impl_RecordText.mono : ∀ a0 a1 a2 a3 a4 a5 k, LeO (impl_RecordText.f k a0 a1 a2 a3 a4 a5) (impl_RecordText.f (k + 1) a0 a1 a2 a3 a4 a5) := by
  intro a0 a1 a2 a3 a4 a5 k
  unfold impl_RecordText.f
  repeat' first
      | exact impl_RecordValid.mono _ _ _ _ _ _ _
      | exact impl_recordWords.mono _ _ _ _ _ _ _
      | (with_reducible exact LeO.refl _)
      | refine LeO.ite ?_ ?_
      | refine LeO.bind ?_ (fun _ => ?_)

set_option maxHeartbeats 4000000 in
set_option maxRecDepth 100000 in
theorem impl_RecordText.calls (k : Nat) (a0_0 : Int) (a0_1 : Int) (a0_2 : Bool) (A0_3 : Option Addr) (c0_3 : Nat) (l0_3 : List Int) (a0_4 : Bool) (A0_5 : Option Addr) (c0_5 : Nat) (l0_5 : List Int) (r : ByteArray) (w : World) (hr0_3 : Kd.C (Kd.int .i64) w A0_3 l0_3.length l0_3) (hc0_3 : l0_3.length ≤ c0_3) (hr0_5 : Kd.C (Kd.int .i64) w A0_5 l0_5.length l0_5) (hc0_5 : l0_5.length ≤ c0_5) (tab : TabOk w) (h : impl_RecordText.f k a0_0 a0_1 a0_2 l0_3 a0_4 l0_5 = some r) :
    Calls Tryd.prog 16 #[.agg #[.int .i64 a0_0, .int .i64 a0_1, .bool a0_2, .slice A0_3 l0_3.length c0_3, .bool a0_4, .slice A0_5 l0_5.length c0_5]] w fun e w' => e = .returned (.string r) ∧ Below w.heap.size w w' := by
  have hu41 := Tryd.underlying41
  have HR3 := Aside0.mk hr0_3
  have HC3 := Aside0.mk hc0_3
  have HR5 := Aside0.mk hr0_5
  have HC5 := Aside0.mk hc0_5
  have HTAB := Aside0.mk tab
  have HB := Aside0.mk (Below.refl w.heap.size w)
  clear hr0_3 hc0_3 hr0_5 hc0_5 tab
  unfold impl_RecordText.f at h
  replace h := Option.bind_eq_some_iff.mp h
  obtain ⟨t, hv, h⟩ := h
  have HV := Aside0.mk hv
  clear hv
  cases t with
  | false =>
    rw [if_neg (by decide)] at h
    obtain rfl := Option.some.inj h
    go_enter Tryd.func16, Tryd.ntmps16
    go_wp2_with (first
      | ((with_reducible refine gate_dst (N := 1) rfl ?_); refine box_event ?hg (N := 1) ?hd (cs := #[.int .i64 a0_0, .int .i64 a0_1, .bool a0_2, .slice A0_3 l0_3.length c0_3, .bool a0_4, .slice A0_5 l0_5.length c0_5]) (t := 41) ?hr ?_; (case hd => rfl); (case hg => rfl); (case hr => first | (go_simp; done) | (go_simp; rfl)); intro gb hg w1 hbox hb; have HB1 := Aside0.mk (below_step HB.out hb); have BK := Aside0.mk hbox; clear hb hbox hg; have x0 : w1.cell? ⟨gb, 0, none⟩ = some (.int .i64 a0_0) := blk_cell BK.out 0; have x1 : w1.cell? ⟨gb, 1, none⟩ = some (.int .i64 a0_1) := blk_cell BK.out 1; have x2 : w1.cell? ⟨gb, 2, none⟩ = some (.bool a0_2) := blk_cell BK.out 2; have x3 : w1.cell? ⟨gb, 3, none⟩ = some (.slice A0_3 l0_3.length c0_3) := blk_cell BK.out 3; have x4 : w1.cell? ⟨gb, 4, none⟩ = some (.bool a0_4) := blk_cell BK.out 4; have x5 : w1.cell? ⟨gb, 5, none⟩ = some (.slice A0_5 l0_5.length c0_5) := blk_cell BK.out 5)
      | (go_at_call 30; refine (impl_RecordValid.calls k a0_0 a0_1 a0_2 _ _ l0_3 a0_4 _ _ l0_5 false _ (Kd.C_below HR3.out HB1.out) HC3.out (Kd.C_below HR5.out HB1.out) HC5.out HV.out).mono ?_; rintro e w2 ⟨rfl, hb⟩; have HB2 := Aside0.mk (below_step HB1.out hb); clear hb x0 x1 x2 x3 x4 x5))
    go_ret
    exact ⟨rfl, HB2.out⟩
  | true =>
    rw [if_pos rfl] at h
    replace h := Option.bind_eq_some_iff.mp h
    obtain ⟨ws, hw, h⟩ := h
    obtain rfl := Option.some.inj h
    have HWS := Aside0.mk hw
    clear hw h
    go_enter Tryd.func16, Tryd.ntmps16
    go_wp2_with (first
      | ((with_reducible refine gate_dst (N := 1) rfl ?_); refine box_event ?hg (N := 1) ?hd (cs := #[.int .i64 a0_0, .int .i64 a0_1, .bool a0_2, .slice A0_3 l0_3.length c0_3, .bool a0_4, .slice A0_5 l0_5.length c0_5]) (t := 41) ?hr ?_; (case hd => rfl); (case hg => rfl); (case hr => first | (go_simp; done) | (go_simp; rfl)); intro gb hg w1 hbox hb; have HB1 := Aside0.mk (below_step HB.out hb); have BK := Aside0.mk hbox; clear hb hbox hg; have x0 : w1.cell? ⟨gb, 0, none⟩ = some (.int .i64 a0_0) := blk_cell BK.out 0; have x1 : w1.cell? ⟨gb, 1, none⟩ = some (.int .i64 a0_1) := blk_cell BK.out 1; have x2 : w1.cell? ⟨gb, 2, none⟩ = some (.bool a0_2) := blk_cell BK.out 2; have x3 : w1.cell? ⟨gb, 3, none⟩ = some (.slice A0_3 l0_3.length c0_3) := blk_cell BK.out 3; have x4 : w1.cell? ⟨gb, 4, none⟩ = some (.bool a0_4) := blk_cell BK.out 4; have x5 : w1.cell? ⟨gb, 5, none⟩ = some (.slice A0_5 l0_5.length c0_5) := blk_cell BK.out 5)
      | (go_at_call 30; refine (impl_RecordValid.calls k a0_0 a0_1 a0_2 _ _ l0_3 a0_4 _ _ l0_5 true _ (Kd.C_below HR3.out HB1.out) HC3.out (Kd.C_below HR5.out HB1.out) HC5.out HV.out).mono ?_; rintro e w2 ⟨rfl, hb⟩; have HB2 := Aside0.mk (below_step HB1.out hb); have BK2 := Aside0.mk (blk_below BK.out hb); clear hb x0 x1 x2 x3 x4 x5; have x0 : w2.cell? ⟨gb, 0, none⟩ = some (.int .i64 a0_0) := blk_cell BK2.out 0; have x1 : w2.cell? ⟨gb, 1, none⟩ = some (.int .i64 a0_1) := blk_cell BK2.out 1; have x2 : w2.cell? ⟨gb, 2, none⟩ = some (.bool a0_2) := blk_cell BK2.out 2; have x3 : w2.cell? ⟨gb, 3, none⟩ = some (.slice A0_3 l0_3.length c0_3) := blk_cell BK2.out 3; have x4 : w2.cell? ⟨gb, 4, none⟩ = some (.bool a0_4) := blk_cell BK2.out 4; have x5 : w2.cell? ⟨gb, 5, none⟩ = some (.slice A0_5 l0_5.length c0_5) := blk_cell BK2.out 5)
      | (go_at_call 32; refine (line_text.calls k a0_0 a0_1 a0_2 _ _ l0_3 a0_4 _ _ l0_5 ws _ (Kd.C_below HR3.out HB2.out) HC3.out (Kd.C_below HR5.out HB2.out) HC5.out (tab_below HTAB.out HB2.out) HWS.out).mono ?_; rintro e w3 ⟨rfl, hb⟩; have HB3 := Aside0.mk (below_step HB2.out hb); clear hb x0 x1 x2 x3 x4 x5))
    go_ret
    exact ⟨rfl, HB3.out⟩
end Go.Proofs.YtlhbclblehmdbaaDoor.PFnRecordTextLast
