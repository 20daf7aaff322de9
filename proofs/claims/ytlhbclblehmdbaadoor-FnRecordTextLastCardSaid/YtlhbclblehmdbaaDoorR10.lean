/- The reference's line of a record, whatever the record; the law walked. -/
import Derived.Test.YtlhbclblehmdbaaDoorR9
set_option linter.unusedVariables false
set_option linter.unusedSimpArgs false
namespace Go.Proofs.YtlhbclblehmdbaaDoor.PFnRecordTextLast
open Go.RowKit Go.Proofs.YtlhbclblehmdbaaDoorW.PrintWords Go.Proofs.YtlhbclblehmdbaaDoorW.PrintLast Go.Proofs.YtlhbclblehmdbaaDoorW.PrintMore

def recG (o t : Int) (k v : List Int) : Bool := inOff o && (inOff t && (pOkB k && pOkB v))
theorem recG_iff {o t : Int} {k v : List Int} : recG o t k v = true ↔ (0 ≤ o ∧ o ≤ 99999) ∧ (0 ≤ t ∧ t ≤ 99999) ∧ pOk k ∧ pOk v := by
  unfold recG inOff
  simp only [Bool.and_eq_true, decide_eq_true_eq, pOkB_iff]
def spec_RecordText.f (k : Nat) (a0_0 : Int) (a0_1 : Int) (a0_2 : Bool) (l0_3 : List Int) (a0_4 : Bool) (l0_5 : List Int) : Option ByteArray := (spec_RecordValid.f k a0_0 a0_1 a0_2 l0_3 a0_4 l0_5).bind fun t => if t = true then (if recG a0_0 a0_1 l0_3 l0_5 = true then ((spec_l1Ok.f k l0_3).bind fun x => (spec_l1Ok.f k l0_5).bind fun y => if x = true then (if y = true then some ⟨(recL a0_0 a0_1 a0_2 l0_3 a0_4 l0_5).toArray⟩ else none) else none) else none) else some ⟨#[]⟩
theorem spec_RecordText.mono : ∀ a0 a1 a2 a3 a4 a5 k, LeO (spec_RecordText.f k a0 a1 a2 a3 a4 a5) (spec_RecordText.f (k + 1) a0 a1 a2 a3 a4 a5) := by
  intro a0 a1 a2 a3 a4 a5 k
  unfold spec_RecordText.f
  repeat' first
      | exact spec_RecordValid.mono _ _ _ _ _ _ _
      | exact spec_l1Ok.mono _ _
      | (with_reducible exact LeO.refl _)
      | refine LeO.ite ?_ ?_
      | refine LeO.bind ?_ (fun _ => ?_)
theorem guard_inv {g : Bool} {x y : Option Bool} {z r : ByteArray} (h : (if g = true then (x.bind fun a => y.bind fun b => if a = true then (if b = true then some z else none) else none) else none) = some r) : g = true ∧ x = some true ∧ y = some true ∧ z = r := by
  cases g with
  | false => simp at h
  | true =>
    rw [if_pos rfl] at h
    rcases x with _ | _ | _
    · cases h
    · rcases y with _ | _ | _ <;> cases h
    · rcases y with _ | _ | _
      · cases h
      · cases h
      · exact ⟨rfl, rfl, rfl, Option.some.inj h⟩

set_option maxHeartbeats 4000000 in
set_option maxRecDepth 100000 in
theorem spec_RecordText.calls (k : Nat) (a0_0 : Int) (a0_1 : Int) (a0_2 : Bool) (A0_3 : Option Addr) (c0_3 : Nat) (l0_3 : List Int) (a0_4 : Bool) (A0_5 : Option Addr) (c0_5 : Nat) (l0_5 : List Int) (r : ByteArray) (w : World) (hr0_3 : Kd.C (Kd.int .i64) w A0_3 l0_3.length l0_3) (hc0_3 : l0_3.length ≤ c0_3) (hr0_5 : Kd.C (Kd.int .i64) w A0_5 l0_5.length l0_5) (hc0_5 : l0_5.length ≤ c0_5) (h : spec_RecordText.f k a0_0 a0_1 a0_2 l0_3 a0_4 l0_5 = some r) :
    Calls Tryd.prog 17 #[.agg #[.int .i64 a0_0, .int .i64 a0_1, .bool a0_2, .slice A0_3 l0_3.length c0_3, .bool a0_4, .slice A0_5 l0_5.length c0_5]] w fun e w' => e = .returned (.string r) ∧ Below w.heap.size w w' := by
  have hu41 := Tryd.underlying41
  have HR3 := Aside0.mk hr0_3
  have HC3 := Aside0.mk hc0_3
  have HR5 := Aside0.mk hr0_5
  have HC5 := Aside0.mk hc0_5
  have HB := Aside0.mk (Below.refl w.heap.size w)
  clear hr0_3 hc0_3 hr0_5 hc0_5
  unfold spec_RecordText.f at h
  replace h := Option.bind_eq_some_iff.mp h
  obtain ⟨t, hv, h⟩ := h
  have HV := Aside0.mk hv
  clear hv
  cases t with
  | false =>
    rw [if_neg (by decide)] at h
    obtain rfl := Option.some.inj h
    go_enter Tryd.func17, Tryd.ntmps17
    go_wp2_with (first
      | ((with_reducible refine gate_dst (N := 1) rfl ?_); refine box_event ?hg (N := 1) ?hd (cs := #[.int .i64 a0_0, .int .i64 a0_1, .bool a0_2, .slice A0_3 l0_3.length c0_3, .bool a0_4, .slice A0_5 l0_5.length c0_5]) (t := 41) ?hr ?_; (case hd => rfl); (case hg => rfl); (case hr => first | (go_simp; done) | (go_simp; rfl)); intro gb hg w1 hbox hb; have HB1 := Aside0.mk (below_step HB.out hb); have BK := Aside0.mk hbox; clear hb hbox hg; have x0 : w1.cell? ⟨gb, 0, none⟩ = some (.int .i64 a0_0) := blk_cell BK.out 0; have x1 : w1.cell? ⟨gb, 1, none⟩ = some (.int .i64 a0_1) := blk_cell BK.out 1; have x2 : w1.cell? ⟨gb, 2, none⟩ = some (.bool a0_2) := blk_cell BK.out 2; have x3 : w1.cell? ⟨gb, 3, none⟩ = some (.slice A0_3 l0_3.length c0_3) := blk_cell BK.out 3; have x4 : w1.cell? ⟨gb, 4, none⟩ = some (.bool a0_4) := blk_cell BK.out 4; have x5 : w1.cell? ⟨gb, 5, none⟩ = some (.slice A0_5 l0_5.length c0_5) := blk_cell BK.out 5)
      | (go_at_call 33; refine (spec_RecordValid.calls k a0_0 a0_1 a0_2 _ _ l0_3 a0_4 _ _ l0_5 false _ (Kd.C_below HR3.out HB1.out) HC3.out (Kd.C_below HR5.out HB1.out) HC5.out HV.out).mono ?_; rintro e w2 ⟨rfl, hb⟩; have HB2 := Aside0.mk (below_step HB1.out hb); clear hb x0 x1 x2 x3 x4 x5))
    go_ret
    exact ⟨rfl, HB2.out⟩
  | true =>
    rw [if_pos rfl] at h
    obtain ⟨hg, h3, h5, h⟩ := guard_inv h
    obtain rfl := h
    have HG := Aside0.mk hg
    have H3 := Aside0.mk h3
    have H5 := Aside0.mk h5
    clear hg h3 h5
    go_enter Tryd.func17, Tryd.ntmps17
    go_wp2_with (first
      | ((with_reducible refine gate_dst (N := 1) rfl ?_); refine box_event ?hg (N := 1) ?hd (cs := #[.int .i64 a0_0, .int .i64 a0_1, .bool a0_2, .slice A0_3 l0_3.length c0_3, .bool a0_4, .slice A0_5 l0_5.length c0_5]) (t := 41) ?hr ?_; (case hd => rfl); (case hg => rfl); (case hr => first | (go_simp; done) | (go_simp; rfl)); intro gb hg w1 hbox hb; have HB1 := Aside0.mk (below_step HB.out hb); have BK := Aside0.mk hbox; clear hb hbox hg; have x0 : w1.cell? ⟨gb, 0, none⟩ = some (.int .i64 a0_0) := blk_cell BK.out 0; have x1 : w1.cell? ⟨gb, 1, none⟩ = some (.int .i64 a0_1) := blk_cell BK.out 1; have x2 : w1.cell? ⟨gb, 2, none⟩ = some (.bool a0_2) := blk_cell BK.out 2; have x3 : w1.cell? ⟨gb, 3, none⟩ = some (.slice A0_3 l0_3.length c0_3) := blk_cell BK.out 3; have x4 : w1.cell? ⟨gb, 4, none⟩ = some (.bool a0_4) := blk_cell BK.out 4; have x5 : w1.cell? ⟨gb, 5, none⟩ = some (.slice A0_5 l0_5.length c0_5) := blk_cell BK.out 5)
      | (go_at_call 33; refine (spec_RecordValid.calls k a0_0 a0_1 a0_2 _ _ l0_3 a0_4 _ _ l0_5 true _ (Kd.C_below HR3.out HB1.out) HC3.out (Kd.C_below HR5.out HB1.out) HC5.out HV.out).mono ?_; rintro e w2 ⟨rfl, hb⟩; have HB2 := Aside0.mk (below_step HB1.out hb); have BK2 := Aside0.mk (blk_below BK.out hb); clear hb x0 x1 x2 x3 x4 x5; have x0 : w2.cell? ⟨gb, 0, none⟩ = some (.int .i64 a0_0) := blk_cell BK2.out 0; have x1 : w2.cell? ⟨gb, 1, none⟩ = some (.int .i64 a0_1) := blk_cell BK2.out 1; have x2 : w2.cell? ⟨gb, 2, none⟩ = some (.bool a0_2) := blk_cell BK2.out 2; have x3 : w2.cell? ⟨gb, 3, none⟩ = some (.slice A0_3 l0_3.length c0_3) := blk_cell BK2.out 3; have x4 : w2.cell? ⟨gb, 4, none⟩ = some (.bool a0_4) := blk_cell BK2.out 4; have x5 : w2.cell? ⟨gb, 5, none⟩ = some (.slice A0_5 l0_5.length c0_5) := blk_cell BK2.out 5)
      | (go_at_call 34; refine (spec_l41Text.calls a0_0 a0_1 a0_2 a0_4 _ _ l0_3 _ _ l0_5 k _ (Kd.C_below HR3.out HB2.out) HC3.out (Kd.C_below HR5.out HB2.out) HC5.out (recG_iff.1 HG.out).1 (recG_iff.1 HG.out).2.1 (recG_iff.1 HG.out).2.2.1 (recG_iff.1 HG.out).2.2.2 H3.out H5.out).mono ?_; rintro e w3 ⟨rfl, hb⟩; have HB3 := Aside0.mk (below_step HB2.out hb); clear hb x0 x1 x2 x3 x4 x5))
    go_ret
    exact ⟨rfl, HB3.out⟩
end Go.Proofs.YtlhbclblehmdbaaDoor.PFnRecordTextLast
