/- put: a group put at its place, under the lock. -/
import Derived.Test.YtlhbclblehmdbaaG2
import Derived.Test.YtlhbclblehmdbaaG8
import Derived.WalkKit
import Derived.Deep.RegionHeld3
set_option linter.unusedVariables false
set_option linter.unusedSimpArgs false
namespace Go.Proofs.Ytlhbclblehmdbaa.PFnExactGroupsPut
open Go.RowKit Go.Proofs.YtlhbclblehmdbaaW.PrintWords Go.Proofs.YtlhbclblehmdbaaW.PrintLast Go.Proofs.YtlhbclblehmdbaaW.PrintMore
open Go.MuLone

set_option maxHeartbeats 1000000 in
theorem slices_Clip.calls (A : Option Addr) (n c : Nat) (hc : n ≤ c) (hc63 : c ≤ 9223372036854775807) (w : World) : Calls Try.prog 49 #[.slice A n c] w fun e w' => e = .returned (.slice A n n) ∧ w' = w := by
  have hu34 := Try.underlying34
  have h1 : (n : Int) ≤ 9223372036854775807 := by omega
  go_enter Try.func49, Try.ntmps49
  go_wp2
  go_ret
  exact ⟨by simp, rfl⟩

/-- What put makes of a list. -/
def putL (l : List S34) (y : S34) : List S34 := if foundAt l y.f0 = true then l.set (placeOf l y.f0) y else insAt l (placeOf l y.f0) y

theorem flat_set : ∀ (l : List S34) (i : Nat) (y : S34), flat (l.set i y) = ((flat l).set (i * 2) (.string y.f0)).set (i * 2 + 1) (.int .i64 y.f1)
  | [], i, y => rfl
  | x :: r, 0, y => rfl
  | x :: r, i + 1, y => by
    rw [show (i + 1) * 2 = i * 2 + 1 + 1 by omega]
    simp [flat, flat_set r i y]

set_option maxHeartbeats 4000000 in
set_option maxRecDepth 100000 in
theorem members_put.calls (base mb : Nat) (v0 : Value) (l0 : List S34) (y : S34) (w0 w : World) (hm : w.heap[mb]? = some (.cells #[.int .i32 0, .int .u32 0, v0] 83 (0, 0))) (hR : Kd.R k34 34 w base (fun _ => True) v0 l0) (hl : l0.length < 1099511627775)
    (hmono : ∀ a b, a ≤ b → b < l0.length → cmpS (l0.getD b z34).f0 y.f0 < 0 → cmpS (l0.getD a z34).f0 y.f0 < 0) (hB : Below base w0 w) (hbm : base ≤ mb) :
    Calls Try.prog 48 #[.pointer (some ⟨mb, 0, none⟩), .agg #[.string y.f0, .int .i64 y.f1]] w fun e w' => e = .returned (.tuple #[]) ∧ ∃ v' : Value, w'.heap[mb]? = some (.cells #[.int .i32 0, .int .u32 0, v'] 83 (0, 0)) ∧ Kd.R k34 34 w' base (fun _ => True) v' (putL l0 y) ∧ Below base w0 w' := by
  have hu34 := Try.underlying34
  have hu83 := Try.underlying83
  obtain ⟨A, c, rfl, hc, hC⟩ := Kd.R_reads hR
  have HR := Aside0.mk hR
  have HM := Aside0.mk hm
  have HL := Aside0.mk hl
  have MO := Aside0.mk hmono
  have HB := Aside0.mk hB
  have HBM := Aside0.mk hbm
  have HC := Aside0.mk hC
  have HCC := Aside0.mk hc
  have HAL := Aside0.mk (show ∀ k, (Value.slice A l0.length c).ownBlock = some k → k < w.heap.size from fun k hk => own_lt (R_flat hR) k hk)
  have hml := (Array.getElem?_eq_some_iff.1 hm).1
  have HML := Aside0.mk (show mb < w.heap.size from hml)
  clear hR hm hl hmono hB hbm hC hml
  go_enter_defers Try.func48, Try.ntmps48
  go_upto_region 3 with (first
    | ((with_reducible refine gate_dst (N := 3) rfl ?_); refine box_event ?hg (N := 3) ?hd (cs := #[.string y.f0, .int .i64 y.f1]) (t := 34) ?hr ?_; (case hd => rfl); (case hg => rfl); (case hr => first | (go_simp; done) | (go_simp; rfl)); intro pb hg w1 hbox hb; have PB := Aside0.mk hg; have BK1 := Aside0.mk hbox; have BW1 := Aside0.mk hb; clear hg hbox hb)
    | (go_at_call 62; refine (lock_free muLib ⟨mb, 0, none⟩ _ (blk_cell (blk_below HM.out BW1.out) 0) (blk_frozen (blk_below HM.out BW1.out) 0)).mono ?_; rintro e w2 ⟨rfl, hw2⟩; have HW2_ := Aside0.mk hw2; clear hw2))
  have hw2 := HW2_.out
  have HM1 := Aside0.mk (blk_below HM.out BW1.out)
  have hpm : pb ≠ mb := by have := HML.out; have := PB.out; omega
  have HPM := Aside0.mk hpm
  have hbs : base ≤ w.heap.size := by have := HML.out; have := HBM.out; omega
  have HM2 := Aside0.mk (show w2.heap[mb]? = some (.cells #[.int .i32 1, .int .u32 0, .slice A l0.length c] 83 (0, 0)) by rw [hw2]; exact blk_put HM1.out 0 _ rfl)
  have BK2 := Aside0.mk (show w2.heap[pb]? = some (.cells #[.string y.f0, .int .i64 y.f1] 34 (0, 0)) by rw [hw2]; exact blk_far BK1.out (p := ⟨mb, 0, none⟩) hpm _)
  have HR2 := Aside0.mk (show Kd.R k34 34 w2 base (fun _ => True) (.slice A l0.length c) l0 by rw [hw2]; exact Kd.R_set (Kd.R_below HR.out BW1.out) HM1.out (by decide) 0 _)
  have HB2 := Aside0.mk (show Below base w0 w2 by rw [hw2]; exact (HB.out.trans (BW1.out.mono hbs)).setCell HBM.out _)
  have HC2 := Aside0.mk (show Kd.C k34 w2 A l0.length l0 by
    obtain ⟨A', c', e, _, h⟩ := Kd.R_reads HR2.out
    injection e with e _ _
    subst e
    exact h)
  have HW2 := Aside0.mk (show w1.heap.size ≤ w2.heap.size by rw [hw2]; simp)
  clear hw2 HW2_ HM HM1 BK1 HR HB HC hpm
  have HBS := Aside0.mk (show base ≤ w2.heap.size from Nat.le_trans hbs (Nat.le_trans BW1.out.size HW2.out))
  clear hbs BW1 HW2
  by_cases hf : foundAt l0 y.f0 = true
  · have q0 : ∀ p : BelowBy w2, p.wd.cell? ⟨mb, 2, none⟩ = some (.slice A l0.length c) := fun p => p.cell (blk_cell HM2.out 2)
    have q1 : ∀ p : BelowBy w2, p.wd.cell? ⟨pb, 0, none⟩ = some (.string y.f0) := fun p => p.cell (blk_cell BK2.out 0)
    have q2 : ∀ p : BelowBy w2, p.wd.cell? ⟨pb, 1, none⟩ = some (.int .i64 y.f1) := fun p => p.cell (blk_cell BK2.out 1)
    refine wp_region_quiet_below (by first | assumption | kernel_rfl) (by kernel_rfl) ?_
    repeat (go_big_quiet_step (first | (go_at_call 64; exact Calls.below_of (slices_search.calls A c l0 y.f0 y.f1 _ (Kd.C_below HC2.out (BelowBy.h _)) (by have := HL.out; omega) MO.out))))
    refine wpQuiet_nil ?_
    intro wq hw_
    have hwq := BelowBy.spec hw_
    clear hw_
    clear q0 q1 q2
    have HM3 := Aside0.mk (blk_below HM2.out hwq)
    have BK3 := Aside0.mk (blk_below BK2.out hwq)
    have HR3 := Aside0.mk (Kd.R_below HR2.out hwq)
    have HB3 := Aside0.mk (HB2.out.trans (hwq.mono HBS.out))
    clear HM2 BK2 HR2 HB2 hwq HC2
    have hp : placeOf l0 y.f0 < l0.length := by
      simp only [foundAt, Bool.and_eq_true, decide_eq_true_eq] at hf
      exact hf.1
    have HF := Aside0.mk (show putL l0 y = l0.set (placeOf l0 y.f0) y by rw [putL, if_pos hf])
    obtain ⟨g, c', e, hbg, hgl, _⟩ := Kd.R_form HR3.out (by omega)
    injection e with e _ e2
    subst e; subst e2
    obtain ⟨cur, hgc, hcs, htk⟩ : ∃ cur : List Value, wq.heap[g]? = some (.cells cur.toArray 34 (0, 0)) ∧ cur.length = c * 2 ∧ cur.take (l0.length * 2) = flat l0 := by
      rcases (R_flat HR3.out).2 with ⟨h, _⟩ | ⟨g', cap, cur, h, h1, h2, h3, h4, h5, h6⟩
      · cases h
      · injection h with ha hn hc
        injection ha with ha
        injection ha with ha
        subst ha; subst hc
        exact ⟨cur.toList, by simpa using h2, by simpa using h5, h6⟩
    have HBG := Aside0.mk hbg
    have HGC := Aside0.mk hgc
    have HCS := Aside0.mk hcs
    have HTK := Aside0.mk htk
    have HGP := Aside0.mk (show g ≠ pb ∧ g ≠ mb from ⟨fun h => by have h1 := HAL.out g rfl; rw [h, PB.out] at h1; omega, fun h => by
      subst h
      rw [HM3.out] at hgc
      injection hgc with hgc
      injection hgc with _ hgc
      exact absurd hgc (by decide)⟩)
    clear hbg hgc hcs htk hgl
    generalize hi : placeOf l0 y.f0 = i at *
    have r0 : wq.cell? ⟨mb, 2, none⟩ = some (.slice (some ⟨g, 0, none⟩) l0.length c) := blk_cell HM3.out 2
    have r1 : wq.cell? ⟨pb, 0, none⟩ = some (.string y.f0) := blk_cell BK3.out 0
    have r2 : wq.cell? ⟨pb, 1, none⟩ = some (.int .i64 y.f1) := blk_cell BK3.out 1
    have r3 : ∃ v, wq.cell? ⟨g, i * 2, none⟩ = some v := ⟨_, (blk_cell HGC.out (i * 2)).trans (by rw [List.getElem?_toArray, List.getElem?_eq_getElem (by have := HCS.out; omega)])⟩
    have r4 : ∃ v, wq.cell? ⟨g, i * 2 + 1, none⟩ = some v := ⟨_, (blk_cell HGC.out (i * 2 + 1)).trans (by rw [List.getElem?_toArray, List.getElem?_eq_getElem (by have := HCS.out; omega)])⟩
    obtain ⟨o0, r3⟩ := r3
    obtain ⟨o1, r4⟩ := r4
    have z3 : wq.frozen? ⟨g, i * 2, none⟩ = false := blk_frozen HGC.out _
    have z4 : wq.frozen? ⟨g, i * 2 + 1, none⟩ = false := blk_frozen HGC.out _
    have mixed : Try.prog.follows .mixedOrders = true := by kernel_rfl
    go_upto_region 5 with (fail)
    go_region_o
    have G5 := Aside0.mk (show ((wq.setCell ⟨g, i * 2, none⟩ (.string y.f0)).setCell ⟨g, i * 2 + 1, none⟩ (.int .i64 y.f1)).drew.heap[g]? = some (.cells ((cur.set (i * 2) (.string y.f0)).set (i * 2 + 1) (.int .i64 y.f1)).toArray 34 (0, 0)) from blk_put (blk_put HGC.out (i * 2) _ rfl) (i * 2 + 1) _ (by simp))
    have M5 := Aside0.mk (show ((wq.setCell ⟨g, i * 2, none⟩ (.string y.f0)).setCell ⟨g, i * 2 + 1, none⟩ (.int .i64 y.f1)).drew.heap[mb]? = some (.cells #[.int .i32 1, .int .u32 0, .slice (some ⟨g, 0, none⟩) l0.length c] 83 (0, 0)) from blk_far (p := ⟨g, i * 2 + 1, none⟩) (blk_far (p := ⟨g, i * 2, none⟩) HM3.out (Ne.symm HGP.out.2) _) (Ne.symm HGP.out.2) _)
    have B5 := Aside0.mk (show Below base w0 ((wq.setCell ⟨g, i * 2, none⟩ (.string y.f0)).setCell ⟨g, i * 2 + 1, none⟩ (.int .i64 y.f1)).drew from ((HB3.out.setCell HBG.out _).setCell HBG.out _).drew)
    generalize ((wq.setCell ⟨g, i * 2, none⟩ (.string y.f0)).setCell ⟨g, i * 2 + 1, none⟩ (.int .i64 y.f1)).drew = W5 at G5 M5 B5 ⊢
    clear r0 r1 r2 r3 r4 z3 z4
    go_wp2
    refine leaves_cons (f := 63) (args := #[.pointer (some ⟨mb, 0, none⟩)]) (by simp) (by simp [go_sem]) ?_
    refine (unlock_deferred muLib ⟨mb, 0, none⟩ .returning _ (blk_cell M5.out 0) (blk_frozen M5.out 0)).mono ?_
    rintro e u' w6 ⟨rfl, rfl, rfl⟩
    refine ⟨_, results_none rfl _ _ _, rfl, .slice (some ⟨g, 0, none⟩) l0.length c, blk_put M5.out 0 _ rfl, ?_, B5.out.setCell HBM.out _⟩
    rw [HF.out]
    have hR6 : Kd.R k34 34 W5 base (fun _ => True) (.slice (some ⟨g, 0, none⟩) l0.length c) (l0.set i y) := by
      refine flat_R ?_ (fun _ _ => trivial)
      rw [List.length_set, flat_set]
      have hc63 : c ≤ maxLen := by
        rcases (R_flat HR3.out).2 with ⟨h, _⟩ | ⟨g', cap, cur, h, h1, h2, h3, h4, h5, h6⟩
        · cases h
        · injection h with _ _ h
          subst h
          exact h4
      refine ⟨by simp [flat_length]; omega, .inr ⟨g, c, _, rfl, HBG.out, G5.out, hc, hc63, by simpa using HCS.out, ?_⟩⟩
      rw [List.toList_toArray, ← HTK.out]
      simp only [List.take_set]
    exact Kd.R_set hR6 M5.out (by decide) 0 _
  · have hf' : foundAt l0 y.f0 = false := by simpa using hf
    have HF := Aside0.mk (show putL l0 y = insAt l0 (placeOf l0 y.f0) y by rw [putL, if_neg hf])
    have hp : placeOf l0 y.f0 ≤ l0.length := List.countP_le_length
    clear hf
    have q0 : ∀ p : BelowBy w2, p.wd.cell? ⟨mb, 2, none⟩ = some (.slice A l0.length c) := fun p => p.cell (blk_cell HM2.out 2)
    have q1 : ∀ p : BelowBy w2, p.wd.cell? ⟨pb, 0, none⟩ = some (.string y.f0) := fun p => p.cell (blk_cell BK2.out 0)
    have q2 : ∀ p : BelowBy w2, p.wd.cell? ⟨pb, 1, none⟩ = some (.int .i64 y.f1) := fun p => p.cell (blk_cell BK2.out 1)
    refine wp_region_quiet_below (by first | assumption | kernel_rfl) (by kernel_rfl) ?_
    repeat (go_big_quiet_step (first | (go_at_call 64; exact Calls.below_of (slices_search.calls A c l0 y.f0 y.f1 _ (Kd.C_below HC2.out (BelowBy.h _)) (by have := HL.out; omega) MO.out))))
    refine wpQuiet_nil ?_
    intro wq hw_
    have hwq := BelowBy.spec hw_
    clear hw_
    clear q0 q1 q2
    have HM3 := Aside0.mk (blk_below HM2.out hwq)
    have BK3 := Aside0.mk (blk_below BK2.out hwq)
    have HR3 := Aside0.mk (Kd.R_below HR2.out hwq)
    have HB3 := Aside0.mk (HB2.out.trans (hwq.mono HBS.out))
    have HBS3 := Aside0.mk (Nat.le_trans HBS.out hwq.size)
    clear HM2 BK2 HR2 HB2 hwq HC2
    generalize hi : placeOf l0 y.f0 = i at *
    have r0 : wq.cell? ⟨mb, 2, none⟩ = some (.slice A l0.length c) := blk_cell HM3.out 2
    have r1 : wq.cell? ⟨pb, 0, none⟩ = some (.string y.f0) := blk_cell BK3.out 0
    have r2 : wq.cell? ⟨pb, 1, none⟩ = some (.int .i64 y.f1) := blk_cell BK3.out 1
    have mixed : Try.prog.follows .mixedOrders = true := by kernel_rfl
    go_upto_region 6 with (fail)
    obtain ⟨vb, hvb⟩ : ∃ vb, vb = wq.heap.size := ⟨_, rfl⟩
    have HR7 := Aside0.mk (show Kd.R k34 34 (wq.alloc (.cells #[.string y.f0, .int .i64 y.f1] 34)).drew base (fun _ => True) (.slice A l0.length c) l0 from Kd.R_drew (Kd.R_alloc HR3.out _))
    have HV7 := Aside0.mk (show (wq.alloc (.cells #[.string y.f0, .int .i64 y.f1] 34)).drew.heap[wq.heap.size]? = some (.cells #[.string y.f0, .int .i64 y.f1] 34 (0, 0)) from blk_new wq _)
    have HNE := Aside0.mk (show ∀ k, (Value.slice A l0.length c).ownBlock = some k → k ≠ wq.heap.size ∧ k ≠ mb from fun k hk => by
      refine ⟨?_, ?_⟩
      · have := own_lt (R_flat HR3.out) k hk
        omega
      · rintro rfl
        obtain ⟨cells, h⟩ := own_typed (R_flat HR3.out) k hk
        rw [HM3.out] at h
        injection h with h
        injection h with _ h
        exact absurd h (by decide))
    have HB7 := Aside0.mk (show Below base w0 (wq.alloc (.cells #[.string y.f0, .int .i64 y.f1] 34)).drew from (HB3.out.alloc HBS3.out _).drew)
    have HS7 := Aside0.mk (show wq.heap.size ≤ (wq.alloc (.cells #[.string y.f0, .int .i64 y.f1] 34)).drew.heap.size by simp)
    have HM7 := Aside0.mk (show (wq.alloc (.cells #[.string y.f0, .int .i64 y.f1] 34)).drew.heap[mb]? = some (.cells #[.int .i32 1, .int .u32 0, .slice A l0.length c] 83 (0, 0)) from blk_alloc HM3.out _)
    have ra : (wq.alloc (.cells #[.string y.f0, .int .i64 y.f1] 34)).cell? ⟨mb, 2, none⟩ = some (.slice A l0.length c) := blk_cell HM7.out 2
    clear hvb vb
    refine wp_region_noPanic ?_
    go_region_law_o (refine goes_ Try.func67 (by kernel_rfl) rfl #[.slice A l0.length c, .int .i64 i, .slice (some ⟨wq.heap.size, 0, none⟩) 1 1] (by rfl) rfl rfl (by simp [Act.eval, Act.put]) ?_; refine (slices_Insert.calls base (.slice A l0.length c) wq.heap.size i l0 y w0 _ HR7.out hp (by have := HL.out; omega) HV7.out (fun h => (HNE.out _ h).1 rfl) HB7.out (Nat.le_trans HBS3.out HS7.out)).mono ?_; rintro e w8 ⟨v', rfl, h8, b8, g8⟩; refine ⟨_, rfl, ?_⟩; obtain ⟨A8, c8, e8⟩ := Kd.R_slice h8; subst e8; have H8 := Aside0.mk h8; have B8 := Aside0.mk b8; have M8 := Aside0.mk (blk_grown HM7.out g8 (fun h => (HNE.out _ h.symm).2 rfl)); clear h8 b8 g8; have x8 : w8.cell? ⟨mb, 2, none⟩ = some (.slice A l0.length c) := blk_cell M8.out 2; have f8 : w8.frozen? ⟨mb, 2, none⟩ = false := blk_frozen M8.out 2)
    all_goals
      refine NoPanic.normal ?_
      have M9 := Aside0.mk (show (w8.setCell ⟨mb, 2, none⟩ (.slice A8 (insAt l0 i y).length c8)).heap[mb]? = some (.cells #[.int .i32 1, .int .u32 0, .slice A8 (insAt l0 i y).length c8] 83 (0, 0)) from blk_put M8.out 2 _ rfl)
      have B9 := Aside0.mk (show Below base w0 (w8.setCell ⟨mb, 2, none⟩ (.slice A8 (insAt l0 i y).length c8)) from B8.out.setCell HBM.out _)
      have H9 := Aside0.mk (show Kd.R k34 34 (w8.setCell ⟨mb, 2, none⟩ (.slice A8 (insAt l0 i y).length c8)) base (fun _ => True) (.slice A8 (insAt l0 i y).length c8) (insAt l0 i y) from Kd.R_set H8.out M8.out (by decide) 2 _)
      generalize (w8.setCell ⟨mb, 2, none⟩ (.slice A8 (insAt l0 i y).length c8)) = W9 at M9 B9 H9 ⊢
      clear x8 f8
      go_wp2
      refine leaves_cons (f := 63) (args := #[.pointer (some ⟨mb, 0, none⟩)]) (by simp) (by simp [go_sem]) ?_
      refine (unlock_deferred muLib ⟨mb, 0, none⟩ .returning _ (blk_cell M9.out 0) (blk_frozen M9.out 0)).mono ?_
      rintro e u' w10 ⟨rfl, rfl, rfl⟩
      refine ⟨_, results_none rfl _ _ _, rfl, .slice A8 (insAt l0 i y).length c8, blk_put M9.out 0 _ rfl, ?_, B9.out.setCell HBM.out _⟩
      rw [HF.out]
      exact Kd.R_set H9.out M9.out (by decide) 0 _
end Go.Proofs.Ytlhbclblehmdbaa.PFnExactGroupsPut
