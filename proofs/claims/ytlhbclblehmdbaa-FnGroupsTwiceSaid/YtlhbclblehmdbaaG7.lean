/- slices.Insert of one group: its three roads. -/
import Derived.Test.YtlhbclblehmdbaaG6
import Derived.Shelf.RegionOpenPlain
import Derived.Lib.AppendZerosOnto
import Derived.Lib.Overlaps
import Derived.Laws.Externs
set_option linter.unusedVariables false
set_option linter.unusedSimpArgs false
namespace Go.Proofs.Ytlhbclblehmdbaa.PFnExactGroupsPut
open Go.RowKit Go.Proofs.YtlhbclblehmdbaaW.PrintWords Go.Proofs.YtlhbclblehmdbaaW.PrintLast Go.Proofs.YtlhbclblehmdbaaW.PrintMore

set_option maxHeartbeats 4000000 in
set_option maxRecDepth 100000 in
/-- At the end. -/
theorem one_C {w : World} {vb : Nat} {y : S34} (hv : w.heap[vb]? = some (.cells #[.string y.f0, .int .i64 y.f1] 34 (0, 0))) : Kd.C k34 w (some ⟨vb, 0, none⟩) 1 [y] :=
  ⟨rfl, by decide, fun _ => ⟨_, rfl, fun j p hj => by
    have hj' : j = 0 := by have := (List.getElem?_eq_some_iff.1 hj).1; simpa using this
    subst hj'
    obtain rfl : y = p := by simpa using hj
    refine ⟨[.string y.f0, .int .i64 y.f1], rfl, k34_mk _ _, fun i u hi => ?_⟩
    have e0 : w.cell? ⟨vb, i, none⟩ = some u := (blk_cell hv i).trans (by rw [← hi]; simp)
    rw [Addr.add_lit]
    simpa using e0⟩⟩
theorem slices_Insert.at_end (base : Nat) (A : Option Addr) (c vb : Nat) (l0 : List S34) (y : S34) (w0 w : World) (hR : Kd.R k34 34 w base (fun _ => True) (.slice A l0.length c) l0) (hc : l0.length ≤ c) (hc63 : c ≤ 9223372036854775807) (hl : l0.length < 1099511627776)
    (hv : w.heap[vb]? = some (.cells #[.string y.f0, .int .i64 y.f1] 34 (0, 0))) (hB : Below base w0 w) (hbase : base ≤ w.heap.size) :
    Calls Try.prog 67 #[.slice A l0.length c, .int .i64 l0.length, .slice (some ⟨vb, 0, none⟩) 1 1] w fun e w' => ∃ v' : Value, e = .returned v' ∧ Kd.R k34 34 w' base (fun _ => True) v' (l0 ++ [y]) ∧ Below base w0 w' ∧ w.grownBy w' (Value.slice A l0.length c).ownBlock := by
  have hu34 := Try.underlying34
  have HO := Aside0.mk hR
  have HB := Aside0.mk hB
  have HL := Aside0.mk hl
  have HC := Aside0.mk (one_C hv)
  have HBS := Aside0.mk hbase
  clear hR hB hl hv hbase
  have hn63 : (l0.length : Int) ≤ 9223372036854775807 := by omega
  by_cases hcn : c = l0.length
  · subst hcn
    rcases A with _ | ad
    · go_enter Try.func67, Try.ntmps67
      go_wp2_with ((with_reducible refine gate_dst (N := 25) rfl ?_); refine Kd.R_append_rows k34 (w0 := w0) base rfl (.tmp 23) (.tmp 24) 32 34 (.agg #[(.string ⟨#[]⟩), (.int .i64 0)]) 24 rfl Try.underlying32 info34 rfl (by decide) (by omega) _ l0 [y] _ _ _ (fun _ => True) (fun _ => False) rfl rfl HO.out HC.out (fun x cs h => by rw [k34_open h]; exact k34_mkM _ _ _ x) (fun _ h => h.elim) (fun _ _ => trivial) HB.out HBS.out ?aL ?_; (case aL => have := HL.out; simp; omega); intro v2 w2 ho hb hg hat; clear hat; have HO2 := Aside0.mk ho; have HB2 := Aside0.mk hb; have HG2 := Aside0.mk hg; clear ho hb hg)
      go_ret
      exact ⟨_, rfl, HO2.out, HB2.out, HG2.out⟩
    · go_enter Try.func67, Try.ntmps67
      go_wp2_with ((with_reducible refine gate_dst (N := 25) rfl ?_); refine Kd.R_append_rows k34 (w0 := w0) base rfl (.tmp 23) (.tmp 24) 32 34 (.agg #[(.string ⟨#[]⟩), (.int .i64 0)]) 24 rfl Try.underlying32 info34 rfl (by decide) (by omega) _ l0 [y] _ _ _ (fun _ => True) (fun _ => False) rfl rfl HO.out HC.out (fun x cs h => by rw [k34_open h]; exact k34_mkM _ _ _ x) (fun _ h => h.elim) (fun _ _ => trivial) HB.out HBS.out ?aL ?_; (case aL => have := HL.out; simp; omega); intro v2 w2 ho hb hg hat; clear hat; have HO2 := Aside0.mk ho; have HB2 := Aside0.mk hb; have HG2 := Aside0.mk hg; clear ho hb hg)
      go_ret
      exact ⟨_, rfl, HO2.out, HB2.out, HG2.out⟩
  · rcases A with _ | ad
    · go_enter Try.func67, Try.ntmps67
      go_wp2_with ((with_reducible refine gate_dst (N := 25) rfl ?_); refine Kd.R_append_rows k34 (w0 := w0) base rfl (.tmp 23) (.tmp 24) 32 34 (.agg #[(.string ⟨#[]⟩), (.int .i64 0)]) 24 rfl Try.underlying32 info34 rfl (by decide) (by omega) _ l0 [y] _ _ _ (fun _ => True) (fun _ => False) rfl rfl HO.out HC.out (fun x cs h => by rw [k34_open h]; exact k34_mkM _ _ _ x) (fun _ h => h.elim) (fun _ _ => trivial) HB.out HBS.out ?aL ?_; (case aL => have := HL.out; simp; omega); intro v2 w2 ho hb hg hat; clear hat; have HO2 := Aside0.mk ho; have HB2 := Aside0.mk hb; have HG2 := Aside0.mk hg; clear ho hb hg)
      go_ret
      exact ⟨_, rfl, HO2.out, HB2.out, HG2.out⟩
    · go_enter Try.func67, Try.ntmps67
      go_wp2_with ((with_reducible refine gate_dst (N := 25) rfl ?_); refine Kd.R_append_rows k34 (w0 := w0) base rfl (.tmp 23) (.tmp 24) 32 34 (.agg #[(.string ⟨#[]⟩), (.int .i64 0)]) 24 rfl Try.underlying32 info34 rfl (by decide) (by omega) _ l0 [y] _ _ _ (fun _ => True) (fun _ => False) rfl rfl HO.out HC.out (fun x cs h => by rw [k34_open h]; exact k34_mkM _ _ _ x) (fun _ h => h.elim) (fun _ _ => trivial) HB.out HBS.out ?aL ?_; (case aL => have := HL.out; simp; omega); intro v2 w2 ho hb hg hat; clear hat; have HO2 := Aside0.mk ho; have HB2 := Aside0.mk hb; have HG2 := Aside0.mk hg; clear ho hb hg)
      go_ret
      exact ⟨_, rfl, HO2.out, HB2.out, HG2.out⟩

/-- A group put in before place i. -/
def insAt (l : List S34) (i : Nat) (y : S34) : List S34 := l.take i ++ [y] ++ l.drop i
theorem size34 : (Try.prog.info? 34).map (·.size) = some 2 := by kernel_rfl
theorem take_two {L F D Y : List Value} {i n : Nat} (hF : L.take (2 * n) = F) (hn : 2 * n + 2 ≤ L.length) (hi : i ≤ n) (hD : D = F.drop (2 * i)) (hY : Y.length = 2) :
    (splice (splice L (2 * i + 2) D) (2 * i) Y).take (2 * n + 2) = F.take (2 * i) ++ Y ++ F.drop (2 * i) ∧ (splice (splice L (2 * i + 2) D) (2 * i) Y).length = L.length := by
  have hFl : F.length = 2 * n := by rw [← hF, List.length_take]; omega
  have hDl : D.length = 2 * n - 2 * i := by rw [hD, List.length_drop, hFl]
  have e1 : splice L (2 * i + 2) D = L.take (2 * i + 2) ++ (D ++ L.drop (2 * n + 2)) := by unfold splice; rw [hDl, show 2 * i + 2 + (2 * n - 2 * i) = 2 * n + 2 by omega]
  have l1 : (L.take (2 * i + 2)).length = 2 * i + 2 := by rw [List.length_take]; omega
  have e2 : (splice L (2 * i + 2) D).take (2 * i) = F.take (2 * i) := by
    have e0 : F.take (2 * i) = L.take (2 * i) := by rw [← hF, List.take_take, Nat.min_eq_left (by omega)]
    rw [e0, e1, List.take_append_of_le_length (by omega), List.take_take, Nat.min_eq_left (by omega)]
  have e3 : (splice L (2 * i + 2) D).drop (2 * i + 2) = D ++ L.drop (2 * n + 2) := by
    rw [e1]
    exact List.drop_left' l1
  have e4 : splice (splice L (2 * i + 2) D) (2 * i) Y = F.take (2 * i) ++ (Y ++ (D ++ L.drop (2 * n + 2))) := by
    show (splice L (2 * i + 2) D).take (2 * i) ++ (Y ++ (splice L (2 * i + 2) D).drop (2 * i + Y.length)) = _
    rw [e2, hY, e3]
  have lt : (F.take (2 * i)).length = 2 * i := by rw [List.length_take, hFl]; omega
  refine ⟨?_, ?_⟩
  · rw [e4, ← List.append_assoc, ← List.append_assoc, hD]
    refine List.take_left' ?_
    simp only [List.length_append, lt, hY, List.length_drop, hFl]
    omega
  · rw [e4]
    simp only [List.length_append, lt, hY, hDl, List.length_drop]
    omega

set_option maxHeartbeats 4000000 in
set_option maxRecDepth 100000 in
/-- There is room: in place. -/
theorem slices_Insert.room (base g c vb i : Nat) (l0 : List S34) (y : S34) (w0 w : World) (hR : Kd.R k34 34 w base (fun _ => True) (.slice (some ⟨g, 0, none⟩) l0.length c) l0) (hi : i < l0.length) (hc : l0.length + 1 ≤ c) (hc63 : c ≤ 9223372036854775807) (hl : l0.length < 1099511627776)
    (hv : w.heap[vb]? = some (.cells #[.string y.f0, .int .i64 y.f1] 34 (0, 0))) (hne : vb ≠ g) (hB : Below base w0 w) :
    Calls Try.prog 67 #[.slice (some ⟨g, 0, none⟩) l0.length c, .int .i64 i, .slice (some ⟨vb, 0, none⟩) 1 1] w fun e w' => ∃ v' : Value, e = .returned v' ∧ Kd.R k34 34 w' base (fun _ => True) v' (insAt l0 i y) ∧ Below base w0 w' ∧ w.grownBy w' (some g) := by
  have hu34 := Try.underlying34
  obtain ⟨cur, hb, hg, hcs, ht⟩ : ∃ cur : List Value, base ≤ g ∧ w.heap[g]? = some (.cells cur.toArray 34 (0, 0)) ∧ cur.length = c * 2 ∧ cur.take (2 * l0.length) = flat l0 := by
    rcases (R_flat hR).2 with ⟨h, _⟩ | ⟨g', cap, cur, h, h1, h2, h3, h4, h5, h6⟩
    · cases h
    · injection h with ha hn hc
      injection ha with ha
      injection ha with ha
      subst ha; subst hc
      exact ⟨cur.toList, h1, by simpa using h2, by simpa using h5, by rw [← h6, Nat.mul_comm]⟩
  have HB := Aside0.mk hB
  have HV := Aside0.mk hv
  have HG := Aside0.mk hg
  have HT := Aside0.mk ht
  have HCS := Aside0.mk hcs
  have HBG := Aside0.mk hb
  clear hR hB hv hg ht hb
  have hov : ∀ lb cb, (callFunc 80 #[.slice (some ⟨vb, 0, none⟩) 1 1, .slice (some ⟨g, (i + 1) * 2, none⟩) lb cb]).run Try.prog w = .ok (.value (.bool false)) w := fun lb cb => by
    rw [run_callFunc_extern Try.func80 (by kernel_rfl) (by kernel_rfl) (by kernel_rfl) (e := Extern.SlicesOverlaps.overlaps #[32, 32] #[4]) (by kernel_rfl),
      Lib.run_overlaps_apart w 32 4 34 Try.underlying32 2 Try.sizeOf34 ⟨vb, 0, none⟩ ⟨g, (i + 1) * 2, none⟩ 1 1 lb cb hne 34 34 2 (c * 2) (by simp [World.shape?, HV.out]) (by simp [World.shape?, HG.out, HCS.out]) (by omega) (by simp [World.frozen?, HV.out]) (by simp [World.frozen?, HV.out])]
    rfl
  have hz2 : ¬ ((i : Int) = (l0.length : Int)) := by omega
  have hb2 : ¬ (c = i + 1) := by omega
  have hb4 : ¬ (c = i) := by omega
  have hz5 : ¬ ((c : Int) < (l0.length : Int) + 1) := by omega
  have mixed : Try.prog.follows .mixedOrders = true := by kernel_rfl
  have hin : i ≤ l0.length := by omega
  have hw1 : IntKind.i64.wrap ((i : Int) + 1) = (i : Int) + 1 := by rw [IntKind.wrap_i64]; omega
  have hb1 : (0 : Int) ≤ (i : Int) + 1 := by omega
  have htn : ((i : Int) + 1).toNat = i + 1 := by omega
  have hb3 : (i : Int) ≤ (l0.length : Int) + 1 := by omega
  go_enter Try.func67, Try.ntmps67
  go_upto_region 15 with (simp only [hov])
  obtain ⟨D, hD⟩ : ∃ D, D = (flat l0).drop (2 * i) := ⟨_, rfl⟩
  have HD := Aside0.mk hD
  have hDl : D.length = (l0.length - i) * 2 := by rw [hD, List.length_drop, flat_length]; omega
  have HDL := Aside0.mk hDl
  have HSRC := Aside0.mk (show ∀ j v, D[j]? = some v → w.drew.cell? ((⟨g, i * 2, none⟩ : Addr).add j) = some v from fun j v hj => by
    have h1 : (flat l0)[2 * i + j]? = some v := by rwa [hD, List.getElem?_drop] at hj
    rw [← HT.out, List.getElem?_take] at h1
    split at h1
    · rw [Addr.add_lit]
      show w.cell? _ = _
      rw [Nat.mul_comm i 2]
      simpa [World.cell?, HG.out] using h1
    · cases h1)
  have HFIT := Aside0.mk (show (i + 1) * 2 + D.length ≤ cur.length by rw [hDl, HCS.out]; omega)
  have H1 := Aside0.mk (show ∀ v ∈ D, v.oneCell' = true from fun v hv => flat_one l0 v (by rw [hD] at hv; exact List.mem_of_mem_drop hv))
  have HM := Aside0.mk (show Nat.min (l0.length + 1 - i) (l0.length - i) = l0.length - i by simp only [Nat.min_def]; split <;> omega)
  clear hD hDl
  go_region_law_o (refine step_copyK rfl (.tmp 73) (.tmp 76) 32 32 rfl 34 2 Try.underlying32 size34 g ((i + 1) * 2) cur 34 D (l0.length - i) ⟨g, i * 2, none⟩ (l0.length - i) (c - (i + 1)) (l0.length + 1 - i) (c - i) (by simp [Act.eval, Act.put]) (by simp [Act.eval, Act.put]) HG.out HM.out HDL.out HSRC.out HFIT.out H1.out ?_; intro w2 hg2 hb2)
  have HC2 := Aside0.mk (show ∀ j v, [Value.string y.f0, .int .i64 y.f1][j]? = some v → w2.cell? ((⟨vb, 0, none⟩ : Addr).add j) = some v from fun j v hj => by
    have hvb : w2.heap[vb]? = w.heap[vb]? := hb2.out.block vb (by have := (Array.getElem?_eq_some_iff.1 HV.out).1; exact this) (by simpa using hne)
    rw [Addr.add_lit]
    have := blk_cell (hvb.trans HV.out) j
    simpa [← hj] using this)
  have hcl : (splice cur ((i + 1) * 2) D).length = cur.length := length_splice _ _ _ HFIT.out
  have HFIT2 := Aside0.mk (show i * 2 + [Value.string y.f0, .int .i64 y.f1].length ≤ (splice cur ((i + 1) * 2) D).length by rw [hcl, HCS.out]; simp; omega)
  have HM2 := Aside0.mk (show Nat.min 1 (l0.length + 1 - i) = 1 by simp only [Nat.min_def]; split <;> omega)
  clear hcl
  go_wp2_with ((with_reducible refine gate_dst (N := 82) rfl ?_); refine wpList_copyK rfl (.tmp 80) (.tmp 81) 32 32 rfl 34 2 Try.underlying32 size34 g (i * 2) (splice cur ((i + 1) * 2) D) 34 [.string y.f0, .int .i64 y.f1] 1 ⟨vb, 0, none⟩ (l0.length + 1 - i) (c - i) 1 1 (by simp [Act.eval, Act.put]) (by simp [Act.eval, Act.put]) hg2.out HM2.out rfl HC2.out HFIT2.out (by intro v hv; simp at hv; rcases hv with rfl | rfl <;> rfl) ?_; intro w3 hg3 hb3)
  go_ret
  obtain ⟨e1, e2⟩ := take_two HT.out (by rw [HCS.out]; omega) hin HD.out (Y := [Value.string y.f0, .int .i64 y.f1]) rfl
  have ex : (i + 1) * 2 = 2 * i + 2 := by omega
  have hfl : flat (insAt l0 i y) = (flat l0).take (2 * i) ++ [Value.string y.f0, .int .i64 y.f1] ++ (flat l0).drop (2 * i) := by
    rw [insAt, flat_append, flat_append, ← flat_take, ← flat_drop]; rfl
  have hln : (insAt l0 i y).length = l0.length + 1 := by simp [insAt]; omega
  have hg3' := hg3.out
  rw [ex, Nat.mul_comm i 2] at hg3'
  have G : w.grownBy w3 (some g) := ⟨hb3.out.os.trans hb2.out.os, hb3.out.tape.trans hb2.out.tape, hb3.out.output.trans hb2.out.output, Nat.le_trans hb2.out.size hb3.out.size, fun k hk hne' => (hb3.out.block k (Nat.lt_of_lt_of_le hk hb2.out.size) hne').trans (hb2.out.block k hk hne')⟩
  refine ⟨_, rfl, flat_R ?_ (fun _ _ => trivial), HB.out.trans ⟨G.os, G.tape, G.output, G.size, fun k hk => ?_⟩, G⟩
  · show w3.ownsRow base 34 2 (.slice (some ⟨g, 0, none⟩) (l0.length + 1) c) (insAt l0 i y).length (flat (insAt l0 i y))
    rw [hln, hfl]
    refine ⟨by rw [← hfl, flat_length, hln]; omega, .inr ⟨g, c, _, rfl, HBG.out, hg3', hc, by unfold maxLen; omega, by simpa [e2] using HCS.out, ?_⟩⟩
    rw [List.toList_toArray, ← e1]
    congr 1
    omega
  · have hgl : g < w.heap.size := (Array.getElem?_eq_some_iff.1 HG.out).1
    have := HBG.out
    exact G.block k (by omega) (by simp; omega)
end Go.Proofs.Ytlhbclblehmdbaa.PFnExactGroupsPut
