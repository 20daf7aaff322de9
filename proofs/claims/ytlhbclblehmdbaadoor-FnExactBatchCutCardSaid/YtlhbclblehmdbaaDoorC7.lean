/- Texts of the print, as texts of this claim. -/
import Derived.Test.YtlhbclblehmdbaaDoorC0
import Derived.Test.YtlhbclblehmdbaaDoorC5
namespace Go.Proofs.YtlhbclblehmdbaaDoor.PFnExactBatchCut
open Go.RowKit Go.Proofs.YtlhbclblehmdbaaDoorW.PrintWords Go.Proofs.YtlhbclblehmdbaaDoorW.PrintLast Go.Proofs.YtlhbclblehmdbaaDoorW.PrintMore
set_option linter.unusedVariables false
set_option linter.unusedSimpArgs false

/-! ### impl_BatchValid: function 40 -/
mutual
def impl_BatchValid.j0 : Nat → Bool → Bool → Int → Int → Int → List (S41) → Option (Bool)
  | 0, _, _, _, _, _, _ => none
  | k + 1, x235000, x235001, x235002, x235003, x235004, x235005 => (impl_within.f (x235005.length : Int) 1 6).bind fun t238 => (if t238 = true then (if x235001 = true then (impl_BatchValid.j1 k ((x235005.length : Int) != 1) x235000 x235001 x235002 x235003 x235004 x235005) else (impl_BatchValid.j1 k false x235000 x235001 x235002 x235003 x235004 x235005)) else (impl_BatchValid.j1 k true x235000 x235001 x235002 x235003 x235004 x235005))
def impl_BatchValid.j1 : Nat → Bool → Bool → Bool → Int → Int → Int → List (S41) → Option (Bool)
  | 0, _, _, _, _, _, _, _ => none
  | k + 1, x50, x235000, x235001, x235002, x235003, x235004, x235005 => if x50 = true then (some false) else (impl_BatchValid.l0 k x235005 (x235005.length : Int) 0 x235000 x235001 x235002 x235003 x235004 x235005)
def impl_BatchValid.l0 : Nat → List (S41) → Int → Int → Bool → Bool → Int → Int → Int → List (S41) → Option (Bool)
  | 0, _, _, _, _, _, _, _, _, _ => none
  | k + 1, x52, x53, x54, x235000, x235001, x235002, x235003, x235004, x235005 => if x54 < x53 then (if 0 ≤ x54 then (if x54 < (x52.length : Int) then ((impl_RecordValid.f k ((rd_T41 x52 x54).f0) ((rd_T41 x52 x54).f1) ((rd_T41 x52 x54).f2) ((rd_T41 x52 x54).f3) ((rd_T41 x52 x54).f4) ((rd_T41 x52 x54).f5)).bind fun t241 => (if t241 = true then (if x54 > 0 then (if 0 ≤ (wrap64 (x54 - 1)) then (if (wrap64 (x54 - 1)) < (x235005.length : Int) then (if ((rd_T41 x235005 (wrap64 (x54 - 1))).f0) ≥ ((rd_T41 x52 x54).f0) then (some false) else (impl_BatchValid.l0 k x52 x53 (wrap64 (x54 + 1)) x235000 x235001 x235002 x235003 x235004 x235005)) else (none)) else (none)) else (impl_BatchValid.l0 k x52 x53 (wrap64 (x54 + 1)) x235000 x235001 x235002 x235003 x235004 x235005)) else (some false))) else (none)) else (none)) else (some true)
end
def impl_BatchValid.f (k : Nat) (a0_0 : Bool) (a0_1 : Bool) (a0_2 : Int) (a0_3 : Int) (a0_4 : Int) (l0_5 : List (S41)) : Option (Bool) := if a0_2 = 255 then (if a0_3 = 0 then (if a0_4 = 0 then (if a0_1 = true then (some false) else (impl_BatchValid.j0 k a0_0 a0_1 a0_2 a0_3 a0_4 l0_5)) else (some false)) else (some false)) else ((impl_idValid.f a0_2).bind fun t235 => (if t235 = true then ((impl_within.f a0_3 0 99).bind fun t236 => (if t236 = true then ((impl_within.f a0_4 0 9999).bind fun t237 => (if t237 = true then (impl_BatchValid.j0 k a0_0 a0_1 a0_2 a0_3 a0_4 l0_5) else (some false))) else (some false))) else (some false)))
theorem impl_BatchValid.mono_l : ∀ k, (∀ y0 y1 y2 y3 y4 y5, LeO (impl_BatchValid.j0 k y0 y1 y2 y3 y4 y5) (impl_BatchValid.j0 (k + 1) y0 y1 y2 y3 y4 y5)) ∧ (∀ y0 y1 y2 y3 y4 y5 y6, LeO (impl_BatchValid.j1 k y0 y1 y2 y3 y4 y5 y6) (impl_BatchValid.j1 (k + 1) y0 y1 y2 y3 y4 y5 y6)) ∧ (∀ y0 y1 y2 y3 y4 y5 y6 y7 y8, LeO (impl_BatchValid.l0 k y0 y1 y2 y3 y4 y5 y6 y7 y8) (impl_BatchValid.l0 (k + 1) y0 y1 y2 y3 y4 y5 y6 y7 y8))
  | 0 => ⟨fun _ _ _ _ _ _ r h => by simp [impl_BatchValid.j0] at h, fun _ _ _ _ _ _ _ r h => by simp [impl_BatchValid.j1] at h, fun _ _ _ _ _ _ _ _ _ r h => by simp [impl_BatchValid.l0] at h⟩
  | k + 1 => by
    obtain ⟨ih0, ih1, ih2⟩ := impl_BatchValid.mono_l k
    refine ⟨?_, ?_, ?_⟩
    · intro y0 y1 y2 y3 y4 y5
      unfold impl_BatchValid.j0
      repeat' first
      | (with_reducible exact ih0 _ _ _ _ _ _)
      | (with_reducible exact ih1 _ _ _ _ _ _ _)
      | (with_reducible exact ih2 _ _ _ _ _ _ _ _ _)
      | (with_reducible exact impl_RecordValid.mono _ _ _ _ _ _ _)
      | (with_reducible exact LeO.refl _)
      | (with_reducible exact LeO.none _)
      | (with_reducible refine LeO.ite ?_ ?_)
      | (with_reducible refine LeO.bind ?_ (fun _ => ?_))
      | exact ih0 _ _ _ _ _ _
      | exact ih1 _ _ _ _ _ _ _
      | exact ih2 _ _ _ _ _ _ _ _ _
      | exact impl_RecordValid.mono _ _ _ _ _ _ _
      | exact LeO.none _
      | refine LeO.ite ?_ ?_
      | refine LeO.bind ?_ (fun _ => ?_)
    · intro y0 y1 y2 y3 y4 y5 y6
      unfold impl_BatchValid.j1
      repeat' first
      | (with_reducible exact ih0 _ _ _ _ _ _)
      | (with_reducible exact ih1 _ _ _ _ _ _ _)
      | (with_reducible exact ih2 _ _ _ _ _ _ _ _ _)
      | (with_reducible exact impl_RecordValid.mono _ _ _ _ _ _ _)
      | (with_reducible exact LeO.refl _)
      | (with_reducible exact LeO.none _)
      | (with_reducible refine LeO.ite ?_ ?_)
      | (with_reducible refine LeO.bind ?_ (fun _ => ?_))
      | exact ih0 _ _ _ _ _ _
      | exact ih1 _ _ _ _ _ _ _
      | exact ih2 _ _ _ _ _ _ _ _ _
      | exact impl_RecordValid.mono _ _ _ _ _ _ _
      | exact LeO.none _
      | refine LeO.ite ?_ ?_
      | refine LeO.bind ?_ (fun _ => ?_)
    · intro y0 y1 y2 y3 y4 y5 y6 y7 y8
      unfold impl_BatchValid.l0
      repeat' first
      | (with_reducible exact ih0 _ _ _ _ _ _)
      | (with_reducible exact ih1 _ _ _ _ _ _ _)
      | (with_reducible exact ih2 _ _ _ _ _ _ _ _ _)
      | (with_reducible exact impl_RecordValid.mono _ _ _ _ _ _ _)
      | (with_reducible exact LeO.refl _)
      | (with_reducible exact LeO.none _)
      | (with_reducible refine LeO.ite ?_ ?_)
      | (with_reducible refine LeO.bind ?_ (fun _ => ?_))
      | exact ih0 _ _ _ _ _ _
      | exact ih1 _ _ _ _ _ _ _
      | exact ih2 _ _ _ _ _ _ _ _ _
      | exact impl_RecordValid.mono _ _ _ _ _ _ _
      | exact LeO.none _
      | refine LeO.ite ?_ ?_
      | refine LeO.bind ?_ (fun _ => ?_)
theorem impl_BatchValid.mono : ∀ a0 a1 a2 a3 a4 a5 k, LeO (impl_BatchValid.f k a0 a1 a2 a3 a4 a5) (impl_BatchValid.f (k + 1) a0 a1 a2 a3 a4 a5) := by
  intro a0 a1 a2 a3 a4 a5 k
  obtain ⟨ih0, ih1, ih2⟩ := impl_BatchValid.mono_l k
  unfold impl_BatchValid.f
  repeat' first
      | (with_reducible exact ih0 _ _ _ _ _ _)
      | (with_reducible exact ih1 _ _ _ _ _ _ _)
      | (with_reducible exact ih2 _ _ _ _ _ _ _ _ _)
      | (with_reducible exact impl_RecordValid.mono _ _ _ _ _ _ _)
      | (with_reducible exact LeO.refl _)
      | (with_reducible exact LeO.none _)
      | (with_reducible refine LeO.ite ?_ ?_)
      | (with_reducible refine LeO.bind ?_ (fun _ => ?_))
      | exact ih0 _ _ _ _ _ _
      | exact ih1 _ _ _ _ _ _ _
      | exact ih2 _ _ _ _ _ _ _ _ _
      | exact impl_RecordValid.mono _ _ _ _ _ _ _
      | exact LeO.none _
      | refine LeO.ite ?_ ?_
      | refine LeO.bind ?_ (fun _ => ?_)
set_option maxHeartbeats 8000000 in
set_option maxRecDepth 100000 in
theorem impl_BatchValid.calls (k : Nat) (a0_0 : Bool) (a0_1 : Bool) (a0_2 : Int) (a0_3 : Int) (a0_4 : Int) (A0_5 : Option Addr) (c0_5 : Nat) (l0_5 : List (S41)) (r : Bool) (w : World) (hr0_5 : Kd.C k41 w A0_5 l0_5.length l0_5) (hc0_5 : l0_5.length ≤ c0_5) (h : impl_BatchValid.f k a0_0 a0_1 a0_2 a0_3 a0_4 l0_5 = some r) :
    Calls Tryd.prog 40 #[.agg #[.bool a0_0, .bool a0_1, .int .i64 a0_2, .int .i64 a0_3, .int .i64 a0_4, .slice A0_5 l0_5.length c0_5]] w fun e w' => e = .returned (.bool r) ∧ Below w.heap.size w w' := by
  have hu28 := Tryd.underlying28
  have hu41 := Tryd.underlying41
  have HR0_5 := Aside0.mk hr0_5
  have HC0_5 := Aside0.mk hc0_5
  clear hr0_5 hc0_5
  have HB := Aside0.mk (Below.refl w.heap.size w)
  have H : (if a0_2 = 255 then (if a0_3 = 0 then (if a0_4 = 0 then (if a0_1 = true then (some false) else (impl_BatchValid.j0 k a0_0 a0_1 a0_2 a0_3 a0_4 l0_5)) else (some false)) else (some false)) else ((impl_idValid.f a0_2).bind fun t235 => (if t235 = true then ((impl_within.f a0_3 0 99).bind fun t236 => (if t236 = true then ((impl_within.f a0_4 0 9999).bind fun t237 => (if t237 = true then (impl_BatchValid.j0 k a0_0 a0_1 a0_2 a0_3 a0_4 l0_5) else (some false))) else (some false))) else (some false)))) = some r := h
  clear h
  have HC2 := Aside0.mk H
  clear H
  go_enter Tryd.func40, Tryd.ntmps40
  go_upto_if 7 with (first | ((with_reducible refine gate_dst (N := 1) rfl ?_); (try (refine gate_guard (by rfl) ?_; dsimp only)); refine box_event ?hg (N := 1) ?hd (cs := #[.bool a0_0, .bool a0_1, .int .i64 a0_2, .int .i64 a0_3, .int .i64 a0_4, .slice A0_5 l0_5.length c0_5]) (t := 28) ?hr ?_; (case hd => rfl); (case hg => rfl); (case hr => first | (go_simp; done) | (go_simp; rfl)); intro gb234 hg w3 hbox hb; have n0_ := Aside0.mk (below_step (by repeat (first | (with_reducible first | exact HB.out | apply below_alloc | apply pw_below_drewN | apply below_drew1) | exact HB.out)) hb); have n1_ := Aside0.mk (hbox); have n2_ := Aside0.mk ((by rw [hg]; exact (below_size (by repeat (first | (with_reducible first | exact HB.out | apply below_alloc | apply pw_below_drewN | apply below_drew1) | exact HB.out))) : w.heap.size ≤ gb234)); have n3_ := Aside0.mk ((by rw [hg]; exact (below_size (by repeat (first | (with_reducible first | exact HB.out | apply below_alloc | apply pw_below_drewN | apply below_drew1) | exact HB.out))) : w.heap.size ≤ gb234)); clear HB; have HB := n0_; have BK234 := n1_; have GW234 := n2_; have GE234 := n3_; clear n0_ n1_ n2_ n3_; clear hb hbox hg; have hcz4_0 : w3.cell? ⟨gb234, 0, none⟩ = some (.bool a0_0) := (blk_cell BK234.out 0).trans rfl; have hcz4_1 : w3.cell? ⟨gb234, 1, none⟩ = some (.bool a0_1) := (blk_cell BK234.out 1).trans rfl; have hcz4_2 : w3.cell? ⟨gb234, 2, none⟩ = some (.int .i64 a0_2) := (blk_cell BK234.out 2).trans rfl; have hcz4_3 : w3.cell? ⟨gb234, 3, none⟩ = some (.int .i64 a0_3) := (blk_cell BK234.out 3).trans rfl; have hcz4_4 : w3.cell? ⟨gb234, 4, none⟩ = some (.int .i64 a0_4) := (blk_cell BK234.out 4).trans rfl; have hcz4_5 : w3.cell? ⟨gb234, 5, none⟩ = some (.slice A0_5 l0_5.length c0_5) := (blk_cell BK234.out 5).trans rfl; have hfz4_0 := blk_frozen BK234.out 0; have hfz4_1 := blk_frozen BK234.out 1; have hfz4_2 := blk_frozen BK234.out 2; have hfz4_3 := blk_frozen BK234.out 3; have hfz4_4 := blk_frozen BK234.out 4; have hfz4_5 := blk_frozen BK234.out 5))
  (try simp only [Act.put, List.setIfInBounds_toArray, List.set_cons_zero, List.set_cons_succ])
  go_cut [] (fun wc => ∃ (kq : Nat), Aside0 (impl_BatchValid.j0 kq a0_0 a0_1 a0_2 a0_3 a0_4 l0_5 = some r) ∧ Aside0 (kq ≤ k) ∧ Aside0 (wc.heap[gb234]? = some (.cells #[.bool a0_0, .bool a0_1, .int .i64 a0_2, .int .i64 a0_3, .int .i64 a0_4, (.slice A0_5 l0_5.length c0_5)] 28 (0, 0))) ∧ Aside0 (Below w.heap.size w wc))
  case first =>
    have H := HC2.out
    clear HC2
    by_cases c5 : a0_2 = 255
    · rw [if_pos c5] at H
      have c5b0 : (a0_2 == 255) = true := beq_iff_eq.mpr c5
      have c5b1 : (a0_2 != 255) = false := bne_eq_false_iff_eq.mpr c5
      clear c5
      (first | rw [c5b0] | (simp only [i64_w, i32_w]; rw [c5b0]) | skip)
      by_cases c6 : a0_3 = 0
      · rw [if_pos c6] at H
        have c6b0 : (a0_3 == 0) = true := beq_iff_eq.mpr c6
        have c6b1 : (a0_3 != 0) = false := bne_eq_false_iff_eq.mpr c6
        clear c6
        by_cases c7 : a0_4 = 0
        · rw [if_pos c7] at H
          have c7b0 : (a0_4 == 0) = true := beq_iff_eq.mpr c7
          have c7b1 : (a0_4 != 0) = false := bne_eq_false_iff_eq.mpr c7
          clear c7
          by_cases c8 : a0_1 = true
          · subst c8
            have H1 : (some false) = some r := by rw [if_pos rfl] at H; exact H
            clear H
            have H := H1
            clear H1
            obtain rfl := Option.some.inj H
            have hcz9_0 : w3.cell? ⟨gb234, 0, none⟩ = some (.bool a0_0) := (blk_cell BK234.out 0).trans rfl
            have hcz9_1 : w3.cell? ⟨gb234, 1, none⟩ = some (.bool true) := (blk_cell BK234.out 1).trans rfl
            have hcz9_2 : w3.cell? ⟨gb234, 2, none⟩ = some (.int .i64 a0_2) := (blk_cell BK234.out 2).trans rfl
            have hcz9_3 : w3.cell? ⟨gb234, 3, none⟩ = some (.int .i64 a0_3) := (blk_cell BK234.out 3).trans rfl
            have hcz9_4 : w3.cell? ⟨gb234, 4, none⟩ = some (.int .i64 a0_4) := (blk_cell BK234.out 4).trans rfl
            have hcz9_5 : w3.cell? ⟨gb234, 5, none⟩ = some (.slice A0_5 l0_5.length c0_5) := (blk_cell BK234.out 5).trans rfl
            have hfz9_0 := blk_frozen BK234.out 0
            have hfz9_1 := blk_frozen BK234.out 1
            have hfz9_2 := blk_frozen BK234.out 2
            have hfz9_3 := blk_frozen BK234.out 3
            have hfz9_4 := blk_frozen BK234.out 4
            have hfz9_5 := blk_frozen BK234.out 5
            go_wp2
            go_ret
            exact ⟨by first | rfl | (simp [errW_none, errW_some] <;> rfl) | (simp [*, errW_none, errW_some] <;> rfl), by repeat (first | (with_reducible first | exact HB.out | apply below_alloc | apply pw_below_drewN | apply below_drew1 | refine below_set ?_ GE234.out) | exact HB.out)⟩
          · replace c8 := Bool.eq_false_iff.mpr c8
            subst c8
            have H1 : (impl_BatchValid.j0 k a0_0 false a0_2 a0_3 a0_4 l0_5) = some r := by rw [if_neg (show ¬ (false = true) by decide)] at H; exact H
            clear H
            have H := H1
            clear H1
            have H' := Aside0.mk H
            clear H
            have hcz10_0 : w3.cell? ⟨gb234, 0, none⟩ = some (.bool a0_0) := (blk_cell BK234.out 0).trans rfl
            have hcz10_1 : w3.cell? ⟨gb234, 1, none⟩ = some (.bool false) := (blk_cell BK234.out 1).trans rfl
            have hcz10_2 : w3.cell? ⟨gb234, 2, none⟩ = some (.int .i64 a0_2) := (blk_cell BK234.out 2).trans rfl
            have hcz10_3 : w3.cell? ⟨gb234, 3, none⟩ = some (.int .i64 a0_3) := (blk_cell BK234.out 3).trans rfl
            have hcz10_4 : w3.cell? ⟨gb234, 4, none⟩ = some (.int .i64 a0_4) := (blk_cell BK234.out 4).trans rfl
            have hcz10_5 : w3.cell? ⟨gb234, 5, none⟩ = some (.slice A0_5 l0_5.length c0_5) := (blk_cell BK234.out 5).trans rfl
            have hfz10_0 := blk_frozen BK234.out 0
            have hfz10_1 := blk_frozen BK234.out 1
            have hfz10_2 := blk_frozen BK234.out 2
            have hfz10_3 := blk_frozen BK234.out 3
            have hfz10_4 := blk_frozen BK234.out 4
            have hfz10_5 := blk_frozen BK234.out 5
            go_wp2
            go_meet
            case rel => exact ⟨_, H', ⟨by first | omega | exact Nat.le_refl _⟩, ⟨by (with_reducible repeat (first | refine blk_drewN ?_ _ | refine blk_drew ?_ | refine blk_alloc ?_ _)); exact BK234.out⟩, ⟨by repeat (first | (with_reducible first | exact HB.out | apply below_alloc | apply pw_below_drewN | apply below_drew1 | refine below_set ?_ GE234.out) | exact HB.out)⟩⟩
        · rw [if_neg c7] at H
          have c7b0 : (a0_4 == 0) = false := beq_eq_false_iff_ne.mpr c7
          have c7b1 : (a0_4 != 0) = true := bne_iff_ne.mpr c7
          obtain rfl := Option.some.inj H
          have hcz11_0 : w3.cell? ⟨gb234, 0, none⟩ = some (.bool a0_0) := (blk_cell BK234.out 0).trans rfl
          have hcz11_1 : w3.cell? ⟨gb234, 1, none⟩ = some (.bool a0_1) := (blk_cell BK234.out 1).trans rfl
          have hcz11_2 : w3.cell? ⟨gb234, 2, none⟩ = some (.int .i64 a0_2) := (blk_cell BK234.out 2).trans rfl
          have hcz11_3 : w3.cell? ⟨gb234, 3, none⟩ = some (.int .i64 a0_3) := (blk_cell BK234.out 3).trans rfl
          have hcz11_4 : w3.cell? ⟨gb234, 4, none⟩ = some (.int .i64 a0_4) := (blk_cell BK234.out 4).trans rfl
          have hcz11_5 : w3.cell? ⟨gb234, 5, none⟩ = some (.slice A0_5 l0_5.length c0_5) := (blk_cell BK234.out 5).trans rfl
          have hfz11_0 := blk_frozen BK234.out 0
          have hfz11_1 := blk_frozen BK234.out 1
          have hfz11_2 := blk_frozen BK234.out 2
          have hfz11_3 := blk_frozen BK234.out 3
          have hfz11_4 := blk_frozen BK234.out 4
          have hfz11_5 := blk_frozen BK234.out 5
          go_wp2
          go_ret
          exact ⟨by first | rfl | (simp [errW_none, errW_some] <;> rfl) | (simp [*, errW_none, errW_some] <;> rfl), by repeat (first | (with_reducible first | exact HB.out | apply below_alloc | apply pw_below_drewN | apply below_drew1 | refine below_set ?_ GE234.out) | exact HB.out)⟩
      · rw [if_neg c6] at H
        have c6b0 : (a0_3 == 0) = false := beq_eq_false_iff_ne.mpr c6
        have c6b1 : (a0_3 != 0) = true := bne_iff_ne.mpr c6
        obtain rfl := Option.some.inj H
        have hcz12_0 : w3.cell? ⟨gb234, 0, none⟩ = some (.bool a0_0) := (blk_cell BK234.out 0).trans rfl
        have hcz12_1 : w3.cell? ⟨gb234, 1, none⟩ = some (.bool a0_1) := (blk_cell BK234.out 1).trans rfl
        have hcz12_2 : w3.cell? ⟨gb234, 2, none⟩ = some (.int .i64 a0_2) := (blk_cell BK234.out 2).trans rfl
        have hcz12_3 : w3.cell? ⟨gb234, 3, none⟩ = some (.int .i64 a0_3) := (blk_cell BK234.out 3).trans rfl
        have hcz12_4 : w3.cell? ⟨gb234, 4, none⟩ = some (.int .i64 a0_4) := (blk_cell BK234.out 4).trans rfl
        have hcz12_5 : w3.cell? ⟨gb234, 5, none⟩ = some (.slice A0_5 l0_5.length c0_5) := (blk_cell BK234.out 5).trans rfl
        have hfz12_0 := blk_frozen BK234.out 0
        have hfz12_1 := blk_frozen BK234.out 1
        have hfz12_2 := blk_frozen BK234.out 2
        have hfz12_3 := blk_frozen BK234.out 3
        have hfz12_4 := blk_frozen BK234.out 4
        have hfz12_5 := blk_frozen BK234.out 5
        go_wp2
        go_ret
        exact ⟨by first | rfl | (simp [errW_none, errW_some] <;> rfl) | (simp [*, errW_none, errW_some] <;> rfl), by repeat (first | (with_reducible first | exact HB.out | apply below_alloc | apply pw_below_drewN | apply below_drew1 | refine below_set ?_ GE234.out) | exact HB.out)⟩
    · rw [if_neg c5] at H
      have c5b0 : (a0_2 == 255) = false := beq_eq_false_iff_ne.mpr c5
      have c5b1 : (a0_2 != 255) = true := bne_iff_ne.mpr c5
      (first | rw [c5b0] | (simp only [i64_w, i32_w]; rw [c5b0]) | skip)
      replace H := Option.bind_eq_some_iff.mp H
      obtain ⟨t235, A130, H⟩ := H
      replace H : (if t235 = true then ((impl_within.f a0_3 0 99).bind fun t236 => (if t236 = true then ((impl_within.f a0_4 0 9999).bind fun t237 => (if t237 = true then (impl_BatchValid.j0 k a0_0 a0_1 a0_2 a0_3 a0_4 l0_5) else (some false))) else (some false))) else (some false)) = some r := H
      have A13 := Aside0.mk A130
      clear A130
      by_cases c14 : t235 = true
      · subst c14
        have H1 : ((impl_within.f a0_3 0 99).bind fun t236 => (if t236 = true then ((impl_within.f a0_4 0 9999).bind fun t237 => (if t237 = true then (impl_BatchValid.j0 k a0_0 a0_1 a0_2 a0_3 a0_4 l0_5) else (some false))) else (some false))) = some r := by rw [if_pos rfl] at H; exact H
        clear H
        have H := H1
        clear H1
        replace H := Option.bind_eq_some_iff.mp H
        obtain ⟨t236, A150, H⟩ := H
        replace H : (if t236 = true then ((impl_within.f a0_4 0 9999).bind fun t237 => (if t237 = true then (impl_BatchValid.j0 k a0_0 a0_1 a0_2 a0_3 a0_4 l0_5) else (some false))) else (some false)) = some r := H
        have A15 := Aside0.mk A150
        clear A150
        by_cases c16 : t236 = true
        · subst c16
          have H1 : ((impl_within.f a0_4 0 9999).bind fun t237 => (if t237 = true then (impl_BatchValid.j0 k a0_0 a0_1 a0_2 a0_3 a0_4 l0_5) else (some false))) = some r := by rw [if_pos rfl] at H; exact H
          clear H
          have H := H1
          clear H1
          replace H := Option.bind_eq_some_iff.mp H
          obtain ⟨t237, A170, H⟩ := H
          replace H : (if t237 = true then (impl_BatchValid.j0 k a0_0 a0_1 a0_2 a0_3 a0_4 l0_5) else (some false)) = some r := H
          have A17 := Aside0.mk A170
          clear A170
          by_cases c18 : t237 = true
          · subst c18
            have H1 : (impl_BatchValid.j0 k a0_0 a0_1 a0_2 a0_3 a0_4 l0_5) = some r := by rw [if_pos rfl] at H; exact H
            clear H
            have H := H1
            clear H1
            have H' := Aside0.mk H
            clear H
            have hcz19_0 : w3.cell? ⟨gb234, 0, none⟩ = some (.bool a0_0) := (blk_cell BK234.out 0).trans rfl
            have hcz19_1 : w3.cell? ⟨gb234, 1, none⟩ = some (.bool a0_1) := (blk_cell BK234.out 1).trans rfl
            have hcz19_2 : w3.cell? ⟨gb234, 2, none⟩ = some (.int .i64 a0_2) := (blk_cell BK234.out 2).trans rfl
            have hcz19_3 : w3.cell? ⟨gb234, 3, none⟩ = some (.int .i64 a0_3) := (blk_cell BK234.out 3).trans rfl
            have hcz19_4 : w3.cell? ⟨gb234, 4, none⟩ = some (.int .i64 a0_4) := (blk_cell BK234.out 4).trans rfl
            have hcz19_5 : w3.cell? ⟨gb234, 5, none⟩ = some (.slice A0_5 l0_5.length c0_5) := (blk_cell BK234.out 5).trans rfl
            have hfz19_0 := blk_frozen BK234.out 0
            have hfz19_1 := blk_frozen BK234.out 1
            have hfz19_2 := blk_frozen BK234.out 2
            have hfz19_3 := blk_frozen BK234.out 3
            have hfz19_4 := blk_frozen BK234.out 4
            have hfz19_5 := blk_frozen BK234.out 5
            go_wp2_with (first | ((with_reducible refine gate_callee (f := 61) rfl ?_); refine goesL_ (some 22) rfl rfl Tryd.func61 (by kernel_rfl) rfl #[.int .i64 a0_2] rfl (by (try simp only [List.map_toArray, List.map_cons, List.map_nil]); first | done | rfl | (simp only [List.length_drop, List.length_take]; rfl)) ?_; (with_reducible refine (impl_idValid.calls a0_2 true _ A13.out).mono ?_); rintro e w' ⟨rfl, ⟨nd, rfl⟩⟩; refine ⟨_, rfl, ?_⟩) | (go_at_call 62; (with_reducible refine (impl_within.calls a0_3 0 99 true _ A15.out).mono ?_); rintro e w' ⟨rfl, ⟨nd, rfl⟩⟩) | (go_at_call 62; (with_reducible refine (impl_within.calls a0_4 0 9999 true _ A17.out).mono ?_); rintro e w' ⟨rfl, ⟨nd, rfl⟩⟩))
            go_meet
            case rel => exact ⟨_, H', ⟨by first | omega | exact Nat.le_refl _⟩, ⟨by (with_reducible repeat (first | refine blk_drewN ?_ _ | refine blk_drew ?_ | refine blk_alloc ?_ _)); exact BK234.out⟩, ⟨by repeat (first | (with_reducible first | exact HB.out | apply below_alloc | apply pw_below_drewN | apply below_drew1 | refine below_set ?_ GE234.out) | exact HB.out)⟩⟩
          · replace c18 := Bool.eq_false_iff.mpr c18
            subst c18
            have H1 : (some false) = some r := by rw [if_neg (show ¬ (false = true) by decide)] at H; exact H
            clear H
            have H := H1
            clear H1
            obtain rfl := Option.some.inj H
            have hcz20_0 : w3.cell? ⟨gb234, 0, none⟩ = some (.bool a0_0) := (blk_cell BK234.out 0).trans rfl
            have hcz20_1 : w3.cell? ⟨gb234, 1, none⟩ = some (.bool a0_1) := (blk_cell BK234.out 1).trans rfl
            have hcz20_2 : w3.cell? ⟨gb234, 2, none⟩ = some (.int .i64 a0_2) := (blk_cell BK234.out 2).trans rfl
            have hcz20_3 : w3.cell? ⟨gb234, 3, none⟩ = some (.int .i64 a0_3) := (blk_cell BK234.out 3).trans rfl
            have hcz20_4 : w3.cell? ⟨gb234, 4, none⟩ = some (.int .i64 a0_4) := (blk_cell BK234.out 4).trans rfl
            have hcz20_5 : w3.cell? ⟨gb234, 5, none⟩ = some (.slice A0_5 l0_5.length c0_5) := (blk_cell BK234.out 5).trans rfl
            have hfz20_0 := blk_frozen BK234.out 0
            have hfz20_1 := blk_frozen BK234.out 1
            have hfz20_2 := blk_frozen BK234.out 2
            have hfz20_3 := blk_frozen BK234.out 3
            have hfz20_4 := blk_frozen BK234.out 4
            have hfz20_5 := blk_frozen BK234.out 5
            go_wp2_with (first | ((with_reducible refine gate_callee (f := 61) rfl ?_); refine goesL_ (some 22) rfl rfl Tryd.func61 (by kernel_rfl) rfl #[.int .i64 a0_2] rfl (by (try simp only [List.map_toArray, List.map_cons, List.map_nil]); first | done | rfl | (simp only [List.length_drop, List.length_take]; rfl)) ?_; (with_reducible refine (impl_idValid.calls a0_2 true _ A13.out).mono ?_); rintro e w' ⟨rfl, ⟨nd, rfl⟩⟩; refine ⟨_, rfl, ?_⟩) | (go_at_call 62; (with_reducible refine (impl_within.calls a0_3 0 99 true _ A15.out).mono ?_); rintro e w' ⟨rfl, ⟨nd, rfl⟩⟩) | (go_at_call 62; (with_reducible refine (impl_within.calls a0_4 0 9999 false _ A17.out).mono ?_); rintro e w' ⟨rfl, ⟨nd, rfl⟩⟩))
            go_ret
            exact ⟨by first | rfl | (simp [errW_none, errW_some] <;> rfl) | (simp [*, errW_none, errW_some] <;> rfl), by repeat (first | (with_reducible first | exact HB.out | apply below_alloc | apply pw_below_drewN | apply below_drew1 | refine below_set ?_ GE234.out) | exact HB.out)⟩
        · replace c16 := Bool.eq_false_iff.mpr c16
          subst c16
          have H1 : (some false) = some r := by rw [if_neg (show ¬ (false = true) by decide)] at H; exact H
          clear H
          have H := H1
          clear H1
          obtain rfl := Option.some.inj H
          have hcz21_0 : w3.cell? ⟨gb234, 0, none⟩ = some (.bool a0_0) := (blk_cell BK234.out 0).trans rfl
          have hcz21_1 : w3.cell? ⟨gb234, 1, none⟩ = some (.bool a0_1) := (blk_cell BK234.out 1).trans rfl
          have hcz21_2 : w3.cell? ⟨gb234, 2, none⟩ = some (.int .i64 a0_2) := (blk_cell BK234.out 2).trans rfl
          have hcz21_3 : w3.cell? ⟨gb234, 3, none⟩ = some (.int .i64 a0_3) := (blk_cell BK234.out 3).trans rfl
          have hcz21_4 : w3.cell? ⟨gb234, 4, none⟩ = some (.int .i64 a0_4) := (blk_cell BK234.out 4).trans rfl
          have hcz21_5 : w3.cell? ⟨gb234, 5, none⟩ = some (.slice A0_5 l0_5.length c0_5) := (blk_cell BK234.out 5).trans rfl
          have hfz21_0 := blk_frozen BK234.out 0
          have hfz21_1 := blk_frozen BK234.out 1
          have hfz21_2 := blk_frozen BK234.out 2
          have hfz21_3 := blk_frozen BK234.out 3
          have hfz21_4 := blk_frozen BK234.out 4
          have hfz21_5 := blk_frozen BK234.out 5
          go_wp2_with (first | ((with_reducible refine gate_callee (f := 61) rfl ?_); refine goesL_ (some 22) rfl rfl Tryd.func61 (by kernel_rfl) rfl #[.int .i64 a0_2] rfl (by (try simp only [List.map_toArray, List.map_cons, List.map_nil]); first | done | rfl | (simp only [List.length_drop, List.length_take]; rfl)) ?_; (with_reducible refine (impl_idValid.calls a0_2 true _ A13.out).mono ?_); rintro e w' ⟨rfl, ⟨nd, rfl⟩⟩; refine ⟨_, rfl, ?_⟩) | (go_at_call 62; (with_reducible refine (impl_within.calls a0_3 0 99 false _ A15.out).mono ?_); rintro e w' ⟨rfl, ⟨nd, rfl⟩⟩))
          go_ret
          exact ⟨by first | rfl | (simp [errW_none, errW_some] <;> rfl) | (simp [*, errW_none, errW_some] <;> rfl), by repeat (first | (with_reducible first | exact HB.out | apply below_alloc | apply pw_below_drewN | apply below_drew1 | refine below_set ?_ GE234.out) | exact HB.out)⟩
      · replace c14 := Bool.eq_false_iff.mpr c14
        subst c14
        have H1 : (some false) = some r := by rw [if_neg (show ¬ (false = true) by decide)] at H; exact H
        clear H
        have H := H1
        clear H1
        obtain rfl := Option.some.inj H
        have hcz22_0 : w3.cell? ⟨gb234, 0, none⟩ = some (.bool a0_0) := (blk_cell BK234.out 0).trans rfl
        have hcz22_1 : w3.cell? ⟨gb234, 1, none⟩ = some (.bool a0_1) := (blk_cell BK234.out 1).trans rfl
        have hcz22_2 : w3.cell? ⟨gb234, 2, none⟩ = some (.int .i64 a0_2) := (blk_cell BK234.out 2).trans rfl
        have hcz22_3 : w3.cell? ⟨gb234, 3, none⟩ = some (.int .i64 a0_3) := (blk_cell BK234.out 3).trans rfl
        have hcz22_4 : w3.cell? ⟨gb234, 4, none⟩ = some (.int .i64 a0_4) := (blk_cell BK234.out 4).trans rfl
        have hcz22_5 : w3.cell? ⟨gb234, 5, none⟩ = some (.slice A0_5 l0_5.length c0_5) := (blk_cell BK234.out 5).trans rfl
        have hfz22_0 := blk_frozen BK234.out 0
        have hfz22_1 := blk_frozen BK234.out 1
        have hfz22_2 := blk_frozen BK234.out 2
        have hfz22_3 := blk_frozen BK234.out 3
        have hfz22_4 := blk_frozen BK234.out 4
        have hfz22_5 := blk_frozen BK234.out 5
        go_wp2_with (first | ((with_reducible refine gate_callee (f := 61) rfl ?_); refine goesL_ (some 22) rfl rfl Tryd.func61 (by kernel_rfl) rfl #[.int .i64 a0_2] rfl (by (try simp only [List.map_toArray, List.map_cons, List.map_nil]); first | done | rfl | (simp only [List.length_drop, List.length_take]; rfl)) ?_; (with_reducible refine (impl_idValid.calls a0_2 false _ A13.out).mono ?_); rintro e w' ⟨rfl, ⟨nd, rfl⟩⟩; refine ⟨_, rfl, ?_⟩))
        go_ret
        exact ⟨by first | rfl | (simp [errW_none, errW_some] <;> rfl) | (simp [*, errW_none, errW_some] <;> rfl), by repeat (first | (with_reducible first | exact HB.out | apply below_alloc | apply pw_below_drewN | apply below_drew1 | refine below_set ?_ GE234.out) | exact HB.out)⟩
  case rest =>
    clear HC2
    obtain ⟨kq, HA, HJ1, BK234, HB⟩ := hcut
    cases kq with
    | zero => exact absurd HA.out (by simp [impl_BatchValid.j0])
    | succ kj1 =>
      have H := HA.out
      clear HA
      simp only [impl_BatchValid.j0] at H
      have HC23 := Aside0.mk H
      clear H
      go_upto_region 6 with (fail)
      go_cut [50] (fun v50 wc => ∃ (kq : Nat) (x50_22 : Bool), v50 = .bool x50_22 ∧ Aside0 (impl_BatchValid.j1 kq x50_22 a0_0 a0_1 a0_2 a0_3 a0_4 l0_5 = some r) ∧ Aside0 (kq ≤ kj1) ∧ Aside0 (wc.heap[gb234]? = some (.cells #[.bool a0_0, .bool a0_1, .int .i64 a0_2, .int .i64 a0_3, .int .i64 a0_4, (.slice A0_5 l0_5.length c0_5)] 28 (0, 0))) ∧ Aside0 (Below w.heap.size w wc))
      case first =>
        have H := HC23.out
        clear HC23
        replace H := Option.bind_eq_some_iff.mp H
        obtain ⟨t238, A240, H⟩ := H
        replace H : (if t238 = true then (if a0_1 = true then (impl_BatchValid.j1 kj1 ((l0_5.length : Int) != 1) a0_0 a0_1 a0_2 a0_3 a0_4 l0_5) else (impl_BatchValid.j1 kj1 false a0_0 a0_1 a0_2 a0_3 a0_4 l0_5)) else (impl_BatchValid.j1 kj1 true a0_0 a0_1 a0_2 a0_3 a0_4 l0_5)) = some r := H
        have A24 := Aside0.mk A240
        clear A240
        by_cases c25 : t238 = true
        · subst c25
          have H1 : (if a0_1 = true then (impl_BatchValid.j1 kj1 ((l0_5.length : Int) != 1) a0_0 a0_1 a0_2 a0_3 a0_4 l0_5) else (impl_BatchValid.j1 kj1 false a0_0 a0_1 a0_2 a0_3 a0_4 l0_5)) = some r := by rw [if_pos rfl] at H; exact H
          clear H
          have H := H1
          clear H1
          by_cases c26 : a0_1 = true
          · subst c26
            have H1 : (impl_BatchValid.j1 kj1 ((l0_5.length : Int) != 1) a0_0 true a0_2 a0_3 a0_4 l0_5) = some r := by rw [if_pos rfl] at H; exact H
            clear H
            have H := H1
            clear H1
            have H' := Aside0.mk H
            clear H
            have hcz27_0 : wc.cell? ⟨gb234, 0, none⟩ = some (.bool a0_0) := (blk_cell BK234.out 0).trans rfl
            have hcz27_1 : wc.cell? ⟨gb234, 1, none⟩ = some (.bool true) := (blk_cell BK234.out 1).trans rfl
            have hcz27_2 : wc.cell? ⟨gb234, 2, none⟩ = some (.int .i64 a0_2) := (blk_cell BK234.out 2).trans rfl
            have hcz27_3 : wc.cell? ⟨gb234, 3, none⟩ = some (.int .i64 a0_3) := (blk_cell BK234.out 3).trans rfl
            have hcz27_4 : wc.cell? ⟨gb234, 4, none⟩ = some (.int .i64 a0_4) := (blk_cell BK234.out 4).trans rfl
            have hcz27_5 : wc.cell? ⟨gb234, 5, none⟩ = some (.slice A0_5 l0_5.length c0_5) := (blk_cell BK234.out 5).trans rfl
            have hfz27_0 := blk_frozen BK234.out 0
            have hfz27_1 := blk_frozen BK234.out 1
            have hfz27_2 := blk_frozen BK234.out 2
            have hfz27_3 := blk_frozen BK234.out 3
            have hfz27_4 := blk_frozen BK234.out 4
            have hfz27_5 := blk_frozen BK234.out 5
            go_wp2_with (first | ((with_reducible refine gate_callee (f := 62) rfl ?_); refine goesL_ (some 39) rfl rfl Tryd.func62 (by kernel_rfl) rfl #[.int .i64 (l0_5.length : Int), .int .i64 1, .int .i64 6] rfl (by (try simp only [List.map_toArray, List.map_cons, List.map_nil]); first | done | rfl | (simp only [List.length_drop, List.length_take]; rfl)) ?_; (with_reducible refine (impl_within.calls (l0_5.length : Int) 1 6 true _ A24.out).mono ?_); rintro e w' ⟨rfl, ⟨nd, rfl⟩⟩; refine ⟨_, rfl, ?_⟩))
            go_meet
            case rel => exact ⟨_, (((l0_5.length : Int) != 1)), (by first | rfl | (simp; done) | (simp [*]; done)), H', ⟨by have := HJ1.out; first | omega | exact Nat.le_refl _⟩, ⟨by (with_reducible repeat (first | refine blk_drewN ?_ _ | refine blk_drew ?_ | refine blk_alloc ?_ _)); exact BK234.out⟩, ⟨by repeat (first | (with_reducible first | exact HB.out | apply below_alloc | apply pw_below_drewN | apply below_drew1 | refine below_set ?_ GE234.out) | exact HB.out)⟩⟩
          · replace c26 := Bool.eq_false_iff.mpr c26
            subst c26
            have H1 : (impl_BatchValid.j1 kj1 false a0_0 false a0_2 a0_3 a0_4 l0_5) = some r := by rw [if_neg (show ¬ (false = true) by decide)] at H; exact H
            clear H
            have H := H1
            clear H1
            have H' := Aside0.mk H
            clear H
            have hcz28_0 : wc.cell? ⟨gb234, 0, none⟩ = some (.bool a0_0) := (blk_cell BK234.out 0).trans rfl
            have hcz28_1 : wc.cell? ⟨gb234, 1, none⟩ = some (.bool false) := (blk_cell BK234.out 1).trans rfl
            have hcz28_2 : wc.cell? ⟨gb234, 2, none⟩ = some (.int .i64 a0_2) := (blk_cell BK234.out 2).trans rfl
            have hcz28_3 : wc.cell? ⟨gb234, 3, none⟩ = some (.int .i64 a0_3) := (blk_cell BK234.out 3).trans rfl
            have hcz28_4 : wc.cell? ⟨gb234, 4, none⟩ = some (.int .i64 a0_4) := (blk_cell BK234.out 4).trans rfl
            have hcz28_5 : wc.cell? ⟨gb234, 5, none⟩ = some (.slice A0_5 l0_5.length c0_5) := (blk_cell BK234.out 5).trans rfl
            have hfz28_0 := blk_frozen BK234.out 0
            have hfz28_1 := blk_frozen BK234.out 1
            have hfz28_2 := blk_frozen BK234.out 2
            have hfz28_3 := blk_frozen BK234.out 3
            have hfz28_4 := blk_frozen BK234.out 4
            have hfz28_5 := blk_frozen BK234.out 5
            go_wp2_with (first | ((with_reducible refine gate_callee (f := 62) rfl ?_); refine goesL_ (some 39) rfl rfl Tryd.func62 (by kernel_rfl) rfl #[.int .i64 (l0_5.length : Int), .int .i64 1, .int .i64 6] rfl (by (try simp only [List.map_toArray, List.map_cons, List.map_nil]); first | done | rfl | (simp only [List.length_drop, List.length_take]; rfl)) ?_; (with_reducible refine (impl_within.calls (l0_5.length : Int) 1 6 true _ A24.out).mono ?_); rintro e w' ⟨rfl, ⟨nd, rfl⟩⟩; refine ⟨_, rfl, ?_⟩))
            go_meet
            case rel => exact ⟨_, (false), (by first | rfl | (simp; done) | (simp [*]; done)), H', ⟨by have := HJ1.out; first | omega | exact Nat.le_refl _⟩, ⟨by (with_reducible repeat (first | refine blk_drewN ?_ _ | refine blk_drew ?_ | refine blk_alloc ?_ _)); exact BK234.out⟩, ⟨by repeat (first | (with_reducible first | exact HB.out | apply below_alloc | apply pw_below_drewN | apply below_drew1 | refine below_set ?_ GE234.out) | exact HB.out)⟩⟩
        · replace c25 := Bool.eq_false_iff.mpr c25
          subst c25
          have H1 : (impl_BatchValid.j1 kj1 true a0_0 a0_1 a0_2 a0_3 a0_4 l0_5) = some r := by rw [if_neg (show ¬ (false = true) by decide)] at H; exact H
          clear H
          have H := H1
          clear H1
          have H' := Aside0.mk H
          clear H
          have hcz29_0 : wc.cell? ⟨gb234, 0, none⟩ = some (.bool a0_0) := (blk_cell BK234.out 0).trans rfl
          have hcz29_1 : wc.cell? ⟨gb234, 1, none⟩ = some (.bool a0_1) := (blk_cell BK234.out 1).trans rfl
          have hcz29_2 : wc.cell? ⟨gb234, 2, none⟩ = some (.int .i64 a0_2) := (blk_cell BK234.out 2).trans rfl
          have hcz29_3 : wc.cell? ⟨gb234, 3, none⟩ = some (.int .i64 a0_3) := (blk_cell BK234.out 3).trans rfl
          have hcz29_4 : wc.cell? ⟨gb234, 4, none⟩ = some (.int .i64 a0_4) := (blk_cell BK234.out 4).trans rfl
          have hcz29_5 : wc.cell? ⟨gb234, 5, none⟩ = some (.slice A0_5 l0_5.length c0_5) := (blk_cell BK234.out 5).trans rfl
          have hfz29_0 := blk_frozen BK234.out 0
          have hfz29_1 := blk_frozen BK234.out 1
          have hfz29_2 := blk_frozen BK234.out 2
          have hfz29_3 := blk_frozen BK234.out 3
          have hfz29_4 := blk_frozen BK234.out 4
          have hfz29_5 := blk_frozen BK234.out 5
          go_wp2_with (first | ((with_reducible refine gate_callee (f := 62) rfl ?_); refine goesL_ (some 39) rfl rfl Tryd.func62 (by kernel_rfl) rfl #[.int .i64 (l0_5.length : Int), .int .i64 1, .int .i64 6] rfl (by (try simp only [List.map_toArray, List.map_cons, List.map_nil]); first | done | rfl | (simp only [List.length_drop, List.length_take]; rfl)) ?_; (with_reducible refine (impl_within.calls (l0_5.length : Int) 1 6 false _ A24.out).mono ?_); rintro e w' ⟨rfl, ⟨nd, rfl⟩⟩; refine ⟨_, rfl, ?_⟩))
          go_meet
          case rel => exact ⟨_, (true), (by first | rfl | (simp; done) | (simp [*]; done)), H', ⟨by have := HJ1.out; first | omega | exact Nat.le_refl _⟩, ⟨by (with_reducible repeat (first | refine blk_drewN ?_ _ | refine blk_drew ?_ | refine blk_alloc ?_ _)); exact BK234.out⟩, ⟨by repeat (first | (with_reducible first | exact HB.out | apply below_alloc | apply pw_below_drewN | apply below_drew1 | refine below_set ?_ GE234.out) | exact HB.out)⟩⟩
      case rest =>
        clear HC23
        obtain ⟨kq, x50_22, rfl, HA, HJ22, BK234, HB⟩ := hcut
        cases kq with
        | zero => exact absurd HA.out (by simp [impl_BatchValid.j1])
        | succ kj22 =>
          have H := HA.out
          clear HA
          simp only [impl_BatchValid.j1] at H
          by_cases c30 : x50_22 = true
          · subst c30
            have H1 : (some false) = some r := by rw [if_pos rfl] at H; exact H
            clear H
            have H := H1
            clear H1
            obtain rfl := Option.some.inj H
            go_wp2
            go_ret
            exact ⟨by first | rfl | (simp [errW_none, errW_some] <;> rfl) | (simp [*, errW_none, errW_some] <;> rfl), by repeat (first | (with_reducible first | exact HB.out | apply below_alloc | apply pw_below_drewN | apply below_drew1 | refine below_set ?_ GE234.out) | exact HB.out)⟩
          · replace c30 := Bool.eq_false_iff.mpr c30
            subst c30
            have H1 : (impl_BatchValid.l0 kj22 l0_5 (l0_5.length : Int) 0 a0_0 a0_1 a0_2 a0_3 a0_4 l0_5) = some r := by rw [if_neg (show ¬ (false = true) by decide)] at H; exact H
            clear H
            have H := H1
            clear H1
            have H' := Aside0.mk H
            clear H
            have hcz31_0 : wc.cell? ⟨gb234, 0, none⟩ = some (.bool a0_0) := (blk_cell BK234.out 0).trans rfl
            have hcz31_1 : wc.cell? ⟨gb234, 1, none⟩ = some (.bool a0_1) := (blk_cell BK234.out 1).trans rfl
            have hcz31_2 : wc.cell? ⟨gb234, 2, none⟩ = some (.int .i64 a0_2) := (blk_cell BK234.out 2).trans rfl
            have hcz31_3 : wc.cell? ⟨gb234, 3, none⟩ = some (.int .i64 a0_3) := (blk_cell BK234.out 3).trans rfl
            have hcz31_4 : wc.cell? ⟨gb234, 4, none⟩ = some (.int .i64 a0_4) := (blk_cell BK234.out 4).trans rfl
            have hcz31_5 : wc.cell? ⟨gb234, 5, none⟩ = some (.slice A0_5 l0_5.length c0_5) := (blk_cell BK234.out 5).trans rfl
            have hfz31_0 := blk_frozen BK234.out 0
            have hfz31_1 := blk_frozen BK234.out 1
            have hfz31_2 := blk_frozen BK234.out 2
            have hfz31_3 := blk_frozen BK234.out 3
            have hfz31_4 := blk_frozen BK234.out 4
            have hfz31_5 := blk_frozen BK234.out 5
            go_wp2
            go_loopg [54] kj22 (fun kq v54 w' => ∃ (x54_3 : Int), v54 = .int .i64 x54_3 ∧ Aside0 (impl_BatchValid.l0 kq l0_5 (l0_5.length : Int) x54_3 a0_0 a0_1 a0_2 a0_3 a0_4 l0_5 = some r) ∧ Aside0 (kq ≤ kj22) ∧ Aside0 (w'.heap[gb234]? = some (.cells #[.bool a0_0, .bool a0_1, .int .i64 a0_2, .int .i64 a0_3, .int .i64 a0_4, (.slice A0_5 l0_5.length c0_5)] 28 (0, 0))) ∧ Aside0 (Below w.heap.size w w'))
            case atStart => exact ⟨(0), (by first | rfl | (simp; done) | (simp [*]; done)), H', ⟨Nat.le_refl _⟩, ⟨by (with_reducible repeat (first | refine blk_drewN ?_ _ | refine blk_drew ?_ | refine blk_alloc ?_ _)); exact BK234.out⟩, ⟨by repeat (first | (with_reducible first | exact HB.out | apply below_alloc | apply pw_below_drewN | apply below_drew1 | refine below_set ?_ GE234.out) | exact HB.out)⟩⟩
            case round =>
              clear H'
              obtain ⟨x54_3, rfl, HA, HK3, BK234, HB⟩ := hrel
              cases gk with
              | zero => exact absurd HA.out (by simp [impl_BatchValid.l0])
              | succ k3 =>
                have H := HA.out
                clear HA
                simp only [impl_BatchValid.l0] at H
                by_cases c32 : x54_3 < (l0_5.length : Int)
                · rw [if_pos c32] at H
                  have c32b0 : decide (x54_3 < (l0_5.length : Int)) = true := decide_eq_true c32
                  clear c32
                  by_cases c33 : 0 ≤ x54_3
                  · rw [if_pos c33] at H
                    have c33b0 : decide (0 ≤ x54_3) = true := decide_eq_true c33
                    clear c33
                    by_cases c34 : x54_3 < (l0_5.length : Int)
                    · rw [if_pos c34] at H
                      have c34b0 : decide (x54_3 < (l0_5.length : Int)) = true := decide_eq_true c34
                      clear c34
                      replace H := Option.bind_eq_some_iff.mp H
                      obtain ⟨t241, A350, H⟩ := H
                      replace H : (if t241 = true then (if x54_3 > 0 then (if 0 ≤ (wrap64 (x54_3 - 1)) then (if (wrap64 (x54_3 - 1)) < (l0_5.length : Int) then (if ((rd_T41 l0_5 (wrap64 (x54_3 - 1))).f0) ≥ ((rd_T41 l0_5 x54_3).f0) then (some false) else (impl_BatchValid.l0 k3 l0_5 (l0_5.length : Int) (wrap64 (x54_3 + 1)) a0_0 a0_1 a0_2 a0_3 a0_4 l0_5)) else (none)) else (none)) else (impl_BatchValid.l0 k3 l0_5 (l0_5.length : Int) (wrap64 (x54_3 + 1)) a0_0 a0_1 a0_2 a0_3 a0_4 l0_5)) else (some false)) = some r := H
                      have A35 := Aside0.mk A350
                      clear A350
                      by_cases c36 : t241 = true
                      · subst c36
                        have H1 : (if x54_3 > 0 then (if 0 ≤ (wrap64 (x54_3 - 1)) then (if (wrap64 (x54_3 - 1)) < (l0_5.length : Int) then (if ((rd_T41 l0_5 (wrap64 (x54_3 - 1))).f0) ≥ ((rd_T41 l0_5 x54_3).f0) then (some false) else (impl_BatchValid.l0 k3 l0_5 (l0_5.length : Int) (wrap64 (x54_3 + 1)) a0_0 a0_1 a0_2 a0_3 a0_4 l0_5)) else (none)) else (none)) else (impl_BatchValid.l0 k3 l0_5 (l0_5.length : Int) (wrap64 (x54_3 + 1)) a0_0 a0_1 a0_2 a0_3 a0_4 l0_5)) = some r := by rw [if_pos rfl] at H; exact H
                        clear H
                        have H := H1
                        clear H1
                        by_cases c37 : x54_3 > 0
                        · rw [if_pos c37] at H
                          have c37b0 : decide (0 < x54_3) = true := decide_eq_true c37
                          clear c37
                          obtain ⟨ji38, hji38⟩ : ∃ j_ : Int, (wrap64 (x54_3 - 1)) = j_ := ⟨_, rfl⟩
                          replace H : (if 0 ≤ (ji38) then (if (ji38) < (l0_5.length : Int) then (if ((rd_T41 l0_5 (ji38)).f0) ≥ ((rd_T41 l0_5 x54_3).f0) then (some false) else (impl_BatchValid.l0 k3 l0_5 (l0_5.length : Int) (wrap64 (x54_3 + 1)) a0_0 a0_1 a0_2 a0_3 a0_4 l0_5)) else (none)) else (none)) = some r := by first | (rw [hji38] at H; exact H) | (simp only [hji38] at H ⊢; exact H)
                          (try rw [hji38] at A35)
                          have hji38w : (IntKind.i64.wrap (x54_3 - 1)) = ji38 := (i64_w _).trans hji38
                          by_cases c39 : 0 ≤ (ji38)
                          · rw [if_pos c39] at H
                            have c39b0 : decide (0 ≤ (ji38)) = true := decide_eq_true c39
                            clear c39
                            by_cases c40 : (ji38) < (l0_5.length : Int)
                            · rw [if_pos c40] at H
                              have c40b0 : decide ((ji38) < (l0_5.length : Int)) = true := decide_eq_true c40
                              clear c40
                              by_cases c41 : ((rd_T41 l0_5 (ji38)).f0) ≥ ((rd_T41 l0_5 x54_3).f0)
                              · rw [if_pos c41] at H
                                have c41b0 : decide (((rd_T41 l0_5 x54_3).f0) ≤ ((rd_T41 l0_5 (ji38)).f0)) = true := decide_eq_true c41
                                clear c41
                                obtain rfl := Option.some.inj H
                                have p239 : 0 ≤ (x54_3 : Int) := of_decide_eq_true (by first | (with_reducible assumption) | assumption)
                                have q239 : x54_3 < (l0_5.length : Int) := of_decide_eq_true (by first | (with_reducible assumption) | assumption)
                                obtain ⟨ad239, A239_3, c239_3, A239_5, c239_5, e239, hx239_0, hx239_1, hx239_2, hx239_3, hx239_4, hx239_5, hl239_3, hi239_3, hl239_5, hi239_5⟩ := at_T41 HR0_5.out x54_3 p239 q239
                                cases e239
                                replace hx239_0 := (HB.out.cell (World.block_lt_of_cell? w _ hx239_0)).trans hx239_0
                                replace hx239_1 := (HB.out.cell (World.block_lt_of_cell? w _ hx239_1)).trans hx239_1
                                replace hx239_2 := (HB.out.cell (World.block_lt_of_cell? w _ hx239_2)).trans hx239_2
                                replace hx239_3 := (HB.out.cell (World.block_lt_of_cell? w _ hx239_3)).trans hx239_3
                                replace hx239_4 := (HB.out.cell (World.block_lt_of_cell? w _ hx239_4)).trans hx239_4
                                replace hx239_5 := (HB.out.cell (World.block_lt_of_cell? w _ hx239_5)).trans hx239_5
                                have HR239_3 := Aside0.mk hi239_3
                                have HC239_3 := Aside0.mk hl239_3
                                clear hi239_3 hl239_3
                                have HR239_5 := Aside0.mk hi239_5
                                have HC239_5 := Aside0.mk hl239_5
                                clear hi239_5 hl239_5
                                replace p239 := eq_true p239
                                replace q239 := eq_true q239
                                try go_wp2_with (first | ((with_reducible refine gate_dst (N := 4) rfl ?_); (try (refine gate_guard (by rfl) ?_; dsimp only)); refine box_event ?hg (N := 4) ?hd (cs := #[.int .i64 0, .int .i64 0, .bool false, .slice none 0 0, .bool false, .slice none 0 0]) (t := 41) ?hr ?_; (case hd => rfl); (case hg => rfl); (case hr => first | (go_simp; done) | (go_simp; rfl)); intro gb240 hg w42 hbox hb; have n0_ := Aside0.mk (blk_below (g := gb234) (o := .cells #[.bool a0_0, .bool a0_1, .int .i64 a0_2, .int .i64 a0_3, .int .i64 a0_4, .slice (some ad239) l0_5.length c0_5] 28 (0, 0)) (by (with_reducible repeat (first | refine blk_drewN ?_ _ | refine blk_drew ?_ | refine blk_alloc ?_ _)); exact BK234.out) hb); have n1_ := Aside0.mk (below_step (by repeat (first | (with_reducible first | exact HB.out | apply below_alloc | apply pw_below_drewN | apply below_drew1 | refine below_set ?_ GE234.out) | exact HB.out)) hb); have n2_ := Aside0.mk (hbox); have n3_ := Aside0.mk ((by rw [hg]; exact (below_size (by repeat (first | (with_reducible first | exact HB.out | apply below_alloc | apply pw_below_drewN | apply below_drew1 | refine below_set ?_ GE234.out) | exact HB.out))) : w.heap.size ≤ gb240)); have n4_ := Aside0.mk ((by rw [hg]; exact (below_size (by repeat (first | (with_reducible first | exact HB.out | apply below_alloc | apply pw_below_drewN | apply below_drew1 | refine below_set ?_ GE234.out) | exact HB.out))) : w.heap.size ≤ gb240)); have n5_ := Aside0.mk ((by rw [hg]; exact Nat.ne_of_lt (blk_lt (g := gb234) (o := .cells #[.bool a0_0, .bool a0_1, .int .i64 a0_2, .int .i64 a0_3, .int .i64 a0_4, .slice (some ad239) l0_5.length c0_5] 28 (0, 0)) (by (with_reducible repeat (first | refine blk_drewN ?_ _ | refine blk_drew ?_ | refine blk_alloc ?_ _)); exact BK234.out)) : gb234 ≠ gb240)); have n6_ := Aside0.mk ((by rw [hg]; exact Nat.ne_of_gt (blk_lt (g := gb234) (o := .cells #[.bool a0_0, .bool a0_1, .int .i64 a0_2, .int .i64 a0_3, .int .i64 a0_4, .slice (some ad239) l0_5.length c0_5] 28 (0, 0)) (by (with_reducible repeat (first | refine blk_drewN ?_ _ | refine blk_drew ?_ | refine blk_alloc ?_ _)); exact BK234.out)) : gb240 ≠ gb234)); clear BK234; clear HB; have BK234 := n0_; have HB := n1_; have BK240 := n2_; have GW240 := n3_; have GE240 := n4_; have NB234_240 := n5_; have NB240_234 := n6_; clear n0_ n1_ n2_ n3_ n4_ n5_ n6_; clear hb hbox hg; have hnb43 := NB240_234.out; have hnc43 := NB234_240.out; have hcz44_0 : w42.cell? ⟨gb240, 0, none⟩ = some (.int .i64 0) := (blk_cell BK240.out 0).trans rfl; have hcz44_1 : w42.cell? ⟨gb240, 1, none⟩ = some (.int .i64 0) := (blk_cell BK240.out 1).trans rfl; have hcz44_2 : w42.cell? ⟨gb240, 2, none⟩ = some (.bool false) := (blk_cell BK240.out 2).trans rfl; have hcz44_3 : w42.cell? ⟨gb240, 3, none⟩ = some (.slice none 0 0) := (blk_cell BK240.out 3).trans rfl; have hcz44_4 : w42.cell? ⟨gb240, 4, none⟩ = some (.bool false) := (blk_cell BK240.out 4).trans rfl; have hcz44_5 : w42.cell? ⟨gb240, 5, none⟩ = some (.slice none 0 0) := (blk_cell BK240.out 5).trans rfl; have hfz44_0 := blk_frozen BK240.out 0; have hfz44_1 := blk_frozen BK240.out 1; have hfz44_2 := blk_frozen BK240.out 2; have hfz44_3 := blk_frozen BK240.out 3; have hfz44_4 := blk_frozen BK240.out 4; have hfz44_5 := blk_frozen BK240.out 5))
                                have n0_ : Aside0 (((((((w42.setCell ⟨gb240, 0, none⟩ (.int .i64 ((rd_T41 l0_5 x54_3).f0))).setCell ⟨gb240, 1, none⟩ (.int .i64 ((rd_T41 l0_5 x54_3).f1))).setCell ⟨gb240, 2, none⟩ (.bool ((rd_T41 l0_5 x54_3).f2))).setCell ⟨gb240, 3, none⟩ (.slice A239_3 ((rd_T41 l0_5 x54_3).f3).length c239_3)).setCell ⟨gb240, 4, none⟩ (.bool ((rd_T41 l0_5 x54_3).f4))).setCell ⟨gb240, 5, none⟩ (.slice A239_5 ((rd_T41 l0_5 x54_3).f5).length c239_5)).heap[gb234]? = some (.cells #[.bool a0_0, .bool a0_1, .int .i64 a0_2, .int .i64 a0_3, .int .i64 a0_4, .slice (some ad239) l0_5.length c0_5] 28 (0, 0))) := ⟨by (with_reducible repeat (first | refine blk_drewN ?_ _ | refine blk_drew ?_ | refine blk_alloc ?_ _)); refine blk_far ?_ NB234_240.out _; (with_reducible repeat (first | refine blk_drewN ?_ _ | refine blk_drew ?_ | refine blk_alloc ?_ _)); refine blk_far ?_ NB234_240.out _; (with_reducible repeat (first | refine blk_drewN ?_ _ | refine blk_drew ?_ | refine blk_alloc ?_ _)); refine blk_far ?_ NB234_240.out _; (with_reducible repeat (first | refine blk_drewN ?_ _ | refine blk_drew ?_ | refine blk_alloc ?_ _)); refine blk_far ?_ NB234_240.out _; (with_reducible repeat (first | refine blk_drewN ?_ _ | refine blk_drew ?_ | refine blk_alloc ?_ _)); refine blk_far ?_ NB234_240.out _; (with_reducible repeat (first | refine blk_drewN ?_ _ | refine blk_drew ?_ | refine blk_alloc ?_ _)); refine blk_far ?_ NB234_240.out _; (with_reducible repeat (first | refine blk_drewN ?_ _ | refine blk_drew ?_ | refine blk_alloc ?_ _)); exact BK234.out⟩
                                have n1_ : Aside0 (((((((w42.setCell ⟨gb240, 0, none⟩ (.int .i64 ((rd_T41 l0_5 x54_3).f0))).setCell ⟨gb240, 1, none⟩ (.int .i64 ((rd_T41 l0_5 x54_3).f1))).setCell ⟨gb240, 2, none⟩ (.bool ((rd_T41 l0_5 x54_3).f2))).setCell ⟨gb240, 3, none⟩ (.slice A239_3 ((rd_T41 l0_5 x54_3).f3).length c239_3)).setCell ⟨gb240, 4, none⟩ (.bool ((rd_T41 l0_5 x54_3).f4))).setCell ⟨gb240, 5, none⟩ (.slice A239_5 ((rd_T41 l0_5 x54_3).f5).length c239_5)).heap[gb240]? = some (.cells #[.int .i64 ((rd_T41 l0_5 x54_3).f0), .int .i64 ((rd_T41 l0_5 x54_3).f1), .bool ((rd_T41 l0_5 x54_3).f2), .slice A239_3 ((rd_T41 l0_5 x54_3).f3).length c239_3, .bool ((rd_T41 l0_5 x54_3).f4), .slice A239_5 ((rd_T41 l0_5 x54_3).f5).length c239_5] 41 (0, 0))) := ⟨by (with_reducible repeat (first | refine blk_drewN ?_ _ | refine blk_drew ?_ | refine blk_alloc ?_ _)); refine blk_put (cs := #[.int .i64 ((rd_T41 l0_5 x54_3).f0), .int .i64 ((rd_T41 l0_5 x54_3).f1), .bool ((rd_T41 l0_5 x54_3).f2), .slice A239_3 ((rd_T41 l0_5 x54_3).f3).length c239_3, .bool ((rd_T41 l0_5 x54_3).f4), .slice none 0 0]) ?_ 5 _ rfl; (with_reducible repeat (first | refine blk_drewN ?_ _ | refine blk_drew ?_ | refine blk_alloc ?_ _)); refine blk_put (cs := #[.int .i64 ((rd_T41 l0_5 x54_3).f0), .int .i64 ((rd_T41 l0_5 x54_3).f1), .bool ((rd_T41 l0_5 x54_3).f2), .slice A239_3 ((rd_T41 l0_5 x54_3).f3).length c239_3, .bool false, .slice none 0 0]) ?_ 4 _ rfl; (with_reducible repeat (first | refine blk_drewN ?_ _ | refine blk_drew ?_ | refine blk_alloc ?_ _)); refine blk_put (cs := #[.int .i64 ((rd_T41 l0_5 x54_3).f0), .int .i64 ((rd_T41 l0_5 x54_3).f1), .bool ((rd_T41 l0_5 x54_3).f2), .slice none 0 0, .bool false, .slice none 0 0]) ?_ 3 _ rfl; (with_reducible repeat (first | refine blk_drewN ?_ _ | refine blk_drew ?_ | refine blk_alloc ?_ _)); refine blk_put (cs := #[.int .i64 ((rd_T41 l0_5 x54_3).f0), .int .i64 ((rd_T41 l0_5 x54_3).f1), .bool false, .slice none 0 0, .bool false, .slice none 0 0]) ?_ 2 _ rfl; (with_reducible repeat (first | refine blk_drewN ?_ _ | refine blk_drew ?_ | refine blk_alloc ?_ _)); refine blk_put (cs := #[.int .i64 ((rd_T41 l0_5 x54_3).f0), .int .i64 0, .bool false, .slice none 0 0, .bool false, .slice none 0 0]) ?_ 1 _ rfl; (with_reducible repeat (first | refine blk_drewN ?_ _ | refine blk_drew ?_ | refine blk_alloc ?_ _)); refine blk_put (cs := #[.int .i64 0, .int .i64 0, .bool false, .slice none 0 0, .bool false, .slice none 0 0]) ?_ 0 _ rfl; (with_reducible repeat (first | refine blk_drewN ?_ _ | refine blk_drew ?_ | refine blk_alloc ?_ _)); exact BK240.out⟩
                                have n2_ : Aside0 (Below w.heap.size w ((((((w42.setCell ⟨gb240, 0, none⟩ (.int .i64 ((rd_T41 l0_5 x54_3).f0))).setCell ⟨gb240, 1, none⟩ (.int .i64 ((rd_T41 l0_5 x54_3).f1))).setCell ⟨gb240, 2, none⟩ (.bool ((rd_T41 l0_5 x54_3).f2))).setCell ⟨gb240, 3, none⟩ (.slice A239_3 ((rd_T41 l0_5 x54_3).f3).length c239_3)).setCell ⟨gb240, 4, none⟩ (.bool ((rd_T41 l0_5 x54_3).f4))).setCell ⟨gb240, 5, none⟩ (.slice A239_5 ((rd_T41 l0_5 x54_3).f5).length c239_5))) := ⟨by repeat (first | (with_reducible first | exact HB.out | apply below_alloc | apply pw_below_drewN | apply below_drew1 | refine below_set ?_ GE234.out | refine below_set ?_ GE240.out) | exact HB.out)⟩
                                (try clear BK234)
                                (try clear BK240)
                                (try clear HB)
                                generalize ((((((w42.setCell ⟨gb240, 0, none⟩ (.int .i64 ((rd_T41 l0_5 x54_3).f0))).setCell ⟨gb240, 1, none⟩ (.int .i64 ((rd_T41 l0_5 x54_3).f1))).setCell ⟨gb240, 2, none⟩ (.bool ((rd_T41 l0_5 x54_3).f2))).setCell ⟨gb240, 3, none⟩ (.slice A239_3 ((rd_T41 l0_5 x54_3).f3).length c239_3)).setCell ⟨gb240, 4, none⟩ (.bool ((rd_T41 l0_5 x54_3).f4))).setCell ⟨gb240, 5, none⟩ (.slice A239_5 ((rd_T41 l0_5 x54_3).f5).length c239_5)) = w45 at n0_ n1_ n2_ ⊢
                                have BK234 := n0_
                                have BK240 := n1_
                                have HB := n2_
                                clear n0_ n1_ n2_
                                have p242 : 0 ≤ ((ji38) : Int) := of_decide_eq_true (by first | (with_reducible assumption) | assumption)
                                have q242 : (ji38) < (l0_5.length : Int) := of_decide_eq_true (by first | (with_reducible assumption) | assumption)
                                obtain ⟨ad242, A242_3, c242_3, A242_5, c242_5, e242, hx242_0, hx242_1, hx242_2, hx242_3, hx242_4, hx242_5, hl242_3, hi242_3, hl242_5, hi242_5⟩ := at_T41 HR0_5.out (ji38) p242 q242
                                have hw242_5 := hx242_5
                                have hw242_4 := hx242_4
                                have hw242_3 := hx242_3
                                have hw242_2 := hx242_2
                                have hw242_1 := hx242_1
                                have hw242_0 := hx242_0
                                obtain rfl : ad239 = ad242 := (by injection e242)
                                replace hx242_0 := (HB.out.cell (World.block_lt_of_cell? w _ hx242_0)).trans hx242_0
                                replace hx242_1 := (HB.out.cell (World.block_lt_of_cell? w _ hx242_1)).trans hx242_1
                                replace hx242_2 := (HB.out.cell (World.block_lt_of_cell? w _ hx242_2)).trans hx242_2
                                replace hx242_3 := (HB.out.cell (World.block_lt_of_cell? w _ hx242_3)).trans hx242_3
                                replace hx242_4 := (HB.out.cell (World.block_lt_of_cell? w _ hx242_4)).trans hx242_4
                                replace hx242_5 := (HB.out.cell (World.block_lt_of_cell? w _ hx242_5)).trans hx242_5
                                have HR242_3 := Aside0.mk hi242_3
                                have HC242_3 := Aside0.mk hl242_3
                                clear hi242_3 hl242_3
                                have HR242_5 := Aside0.mk hi242_5
                                have HC242_5 := Aside0.mk hl242_5
                                clear hi242_5 hl242_5
                                replace p242 := eq_true p242
                                replace q242 := eq_true q242
                                have q0 := fun (p : BelowBy w45) => p.cell ((blk_cell BK240.out 0).trans rfl)
                                have q1 := fun (p : BelowBy w45) => p.cell ((blk_cell BK240.out 1).trans rfl)
                                have q2 := fun (p : BelowBy w45) => p.cell ((blk_cell BK240.out 2).trans rfl)
                                have q3 := fun (p : BelowBy w45) => p.cell ((blk_cell BK240.out 3).trans rfl)
                                have q4 := fun (p : BelowBy w45) => p.cell ((blk_cell BK240.out 4).trans rfl)
                                have q5 := fun (p : BelowBy w45) => p.cell ((blk_cell BK240.out 5).trans rfl)
                                have b0 := fun (p : BelowBy w45) => p.cell ((blk_cell BK234.out 0).trans rfl)
                                have b1 := fun (p : BelowBy w45) => p.cell ((blk_cell BK234.out 1).trans rfl)
                                have b2 := fun (p : BelowBy w45) => p.cell ((blk_cell BK234.out 2).trans rfl)
                                have b3 := fun (p : BelowBy w45) => p.cell ((blk_cell BK234.out 3).trans rfl)
                                have b4 := fun (p : BelowBy w45) => p.cell ((blk_cell BK234.out 4).trans rfl)
                                have b5 := fun (p : BelowBy w45) => p.cell ((blk_cell BK234.out 5).trans rfl)
                                have z0 := fun (p : BelowBy w45) => p.cell hx242_0
                                have PQ := Aside0.mk (fun (p : BelowBy w45) => Calls.below_of (impl_RecordValid.calls k3 ((rd_T41 l0_5 x54_3).f0) ((rd_T41 l0_5 x54_3).f1) ((rd_T41 l0_5 x54_3).f2) _ _ ((rd_T41 l0_5 x54_3).f3) ((rd_T41 l0_5 x54_3).f4) _ _ ((rd_T41 l0_5 x54_3).f5) true p.wd (Kd.C_below HR239_3.out (below_step HB.out p.h)) HC239_3.out (Kd.C_below HR239_5.out (below_step HB.out p.h)) HC239_5.out A35.out))
                                refine wp_region_quiet_below (by first | assumption | kernel_rfl) (by kernel_rfl) ?_
                                repeat (go_big_quiet_step (first | (go_at_call 30; with_reducible exact PQ.out _)))
                                refine wpQuiet_nil ?_
                                intro wq hw_
                                have hwq := BelowBy.spec hw_
                                clear hw_ PQ q0 q1 q2 q3 q4 q5 b0 b1 b2 b3 b4 b5 z0
                                replace HB := Aside0.mk (below_step HB.out hwq)
                                replace BK234 := Aside0.mk (blk_below BK234.out hwq)
                                replace BK240 := Aside0.mk (blk_below BK240.out hwq)
                                clear hwq
                                try go_wp2
                                go_ret
                                exact ⟨by first | rfl | (simp [errW_none, errW_some] <;> rfl) | (simp only [← hji38]; first | rfl | (simp [errW_none, errW_some] <;> rfl)) | (simp [*, errW_none, errW_some] <;> rfl), by repeat (first | (with_reducible first | exact HB.out | apply below_alloc | apply pw_below_drewN | apply below_drew1 | refine below_set ?_ GE234.out | refine below_set ?_ GE240.out) | exact HB.out)⟩
                              · rw [if_neg c41] at H
                                have c41b0 : decide (((rd_T41 l0_5 x54_3).f0) ≤ ((rd_T41 l0_5 (ji38)).f0)) = false := decide_eq_false c41
                                clear c41
                                have H' := Aside0.mk H
                                clear H
                                have p239 : 0 ≤ (x54_3 : Int) := of_decide_eq_true (by first | (with_reducible assumption) | assumption)
                                have q239 : x54_3 < (l0_5.length : Int) := of_decide_eq_true (by first | (with_reducible assumption) | assumption)
                                obtain ⟨ad239, A239_3, c239_3, A239_5, c239_5, e239, hx239_0, hx239_1, hx239_2, hx239_3, hx239_4, hx239_5, hl239_3, hi239_3, hl239_5, hi239_5⟩ := at_T41 HR0_5.out x54_3 p239 q239
                                cases e239
                                replace hx239_0 := (HB.out.cell (World.block_lt_of_cell? w _ hx239_0)).trans hx239_0
                                replace hx239_1 := (HB.out.cell (World.block_lt_of_cell? w _ hx239_1)).trans hx239_1
                                replace hx239_2 := (HB.out.cell (World.block_lt_of_cell? w _ hx239_2)).trans hx239_2
                                replace hx239_3 := (HB.out.cell (World.block_lt_of_cell? w _ hx239_3)).trans hx239_3
                                replace hx239_4 := (HB.out.cell (World.block_lt_of_cell? w _ hx239_4)).trans hx239_4
                                replace hx239_5 := (HB.out.cell (World.block_lt_of_cell? w _ hx239_5)).trans hx239_5
                                have HR239_3 := Aside0.mk hi239_3
                                have HC239_3 := Aside0.mk hl239_3
                                clear hi239_3 hl239_3
                                have HR239_5 := Aside0.mk hi239_5
                                have HC239_5 := Aside0.mk hl239_5
                                clear hi239_5 hl239_5
                                replace p239 := eq_true p239
                                replace q239 := eq_true q239
                                try go_wp2_with (first | ((with_reducible refine gate_dst (N := 4) rfl ?_); (try (refine gate_guard (by rfl) ?_; dsimp only)); refine box_event ?hg (N := 4) ?hd (cs := #[.int .i64 0, .int .i64 0, .bool false, .slice none 0 0, .bool false, .slice none 0 0]) (t := 41) ?hr ?_; (case hd => rfl); (case hg => rfl); (case hr => first | (go_simp; done) | (go_simp; rfl)); intro gb240 hg w48 hbox hb; have n0_ := Aside0.mk (blk_below (g := gb234) (o := .cells #[.bool a0_0, .bool a0_1, .int .i64 a0_2, .int .i64 a0_3, .int .i64 a0_4, .slice (some ad239) l0_5.length c0_5] 28 (0, 0)) (by (with_reducible repeat (first | refine blk_drewN ?_ _ | refine blk_drew ?_ | refine blk_alloc ?_ _)); exact BK234.out) hb); have n1_ := Aside0.mk (below_step (by repeat (first | (with_reducible first | exact HB.out | apply below_alloc | apply pw_below_drewN | apply below_drew1 | refine below_set ?_ GE234.out) | exact HB.out)) hb); have n2_ := Aside0.mk (hbox); have n3_ := Aside0.mk ((by rw [hg]; exact (below_size (by repeat (first | (with_reducible first | exact HB.out | apply below_alloc | apply pw_below_drewN | apply below_drew1 | refine below_set ?_ GE234.out) | exact HB.out))) : w.heap.size ≤ gb240)); have n4_ := Aside0.mk ((by rw [hg]; exact (below_size (by repeat (first | (with_reducible first | exact HB.out | apply below_alloc | apply pw_below_drewN | apply below_drew1 | refine below_set ?_ GE234.out) | exact HB.out))) : w.heap.size ≤ gb240)); have n5_ := Aside0.mk ((by rw [hg]; exact Nat.ne_of_lt (blk_lt (g := gb234) (o := .cells #[.bool a0_0, .bool a0_1, .int .i64 a0_2, .int .i64 a0_3, .int .i64 a0_4, .slice (some ad239) l0_5.length c0_5] 28 (0, 0)) (by (with_reducible repeat (first | refine blk_drewN ?_ _ | refine blk_drew ?_ | refine blk_alloc ?_ _)); exact BK234.out)) : gb234 ≠ gb240)); have n6_ := Aside0.mk ((by rw [hg]; exact Nat.ne_of_gt (blk_lt (g := gb234) (o := .cells #[.bool a0_0, .bool a0_1, .int .i64 a0_2, .int .i64 a0_3, .int .i64 a0_4, .slice (some ad239) l0_5.length c0_5] 28 (0, 0)) (by (with_reducible repeat (first | refine blk_drewN ?_ _ | refine blk_drew ?_ | refine blk_alloc ?_ _)); exact BK234.out)) : gb240 ≠ gb234)); clear BK234; clear HB; have BK234 := n0_; have HB := n1_; have BK240 := n2_; have GW240 := n3_; have GE240 := n4_; have NB234_240 := n5_; have NB240_234 := n6_; clear n0_ n1_ n2_ n3_ n4_ n5_ n6_; clear hb hbox hg; have hnb49 := NB240_234.out; have hnc49 := NB234_240.out; have hcz50_0 : w48.cell? ⟨gb240, 0, none⟩ = some (.int .i64 0) := (blk_cell BK240.out 0).trans rfl; have hcz50_1 : w48.cell? ⟨gb240, 1, none⟩ = some (.int .i64 0) := (blk_cell BK240.out 1).trans rfl; have hcz50_2 : w48.cell? ⟨gb240, 2, none⟩ = some (.bool false) := (blk_cell BK240.out 2).trans rfl; have hcz50_3 : w48.cell? ⟨gb240, 3, none⟩ = some (.slice none 0 0) := (blk_cell BK240.out 3).trans rfl; have hcz50_4 : w48.cell? ⟨gb240, 4, none⟩ = some (.bool false) := (blk_cell BK240.out 4).trans rfl; have hcz50_5 : w48.cell? ⟨gb240, 5, none⟩ = some (.slice none 0 0) := (blk_cell BK240.out 5).trans rfl; have hfz50_0 := blk_frozen BK240.out 0; have hfz50_1 := blk_frozen BK240.out 1; have hfz50_2 := blk_frozen BK240.out 2; have hfz50_3 := blk_frozen BK240.out 3; have hfz50_4 := blk_frozen BK240.out 4; have hfz50_5 := blk_frozen BK240.out 5))
                                have n0_ : Aside0 (((((((w48.setCell ⟨gb240, 0, none⟩ (.int .i64 ((rd_T41 l0_5 x54_3).f0))).setCell ⟨gb240, 1, none⟩ (.int .i64 ((rd_T41 l0_5 x54_3).f1))).setCell ⟨gb240, 2, none⟩ (.bool ((rd_T41 l0_5 x54_3).f2))).setCell ⟨gb240, 3, none⟩ (.slice A239_3 ((rd_T41 l0_5 x54_3).f3).length c239_3)).setCell ⟨gb240, 4, none⟩ (.bool ((rd_T41 l0_5 x54_3).f4))).setCell ⟨gb240, 5, none⟩ (.slice A239_5 ((rd_T41 l0_5 x54_3).f5).length c239_5)).heap[gb234]? = some (.cells #[.bool a0_0, .bool a0_1, .int .i64 a0_2, .int .i64 a0_3, .int .i64 a0_4, .slice (some ad239) l0_5.length c0_5] 28 (0, 0))) := ⟨by (with_reducible repeat (first | refine blk_drewN ?_ _ | refine blk_drew ?_ | refine blk_alloc ?_ _)); refine blk_far ?_ NB234_240.out _; (with_reducible repeat (first | refine blk_drewN ?_ _ | refine blk_drew ?_ | refine blk_alloc ?_ _)); refine blk_far ?_ NB234_240.out _; (with_reducible repeat (first | refine blk_drewN ?_ _ | refine blk_drew ?_ | refine blk_alloc ?_ _)); refine blk_far ?_ NB234_240.out _; (with_reducible repeat (first | refine blk_drewN ?_ _ | refine blk_drew ?_ | refine blk_alloc ?_ _)); refine blk_far ?_ NB234_240.out _; (with_reducible repeat (first | refine blk_drewN ?_ _ | refine blk_drew ?_ | refine blk_alloc ?_ _)); refine blk_far ?_ NB234_240.out _; (with_reducible repeat (first | refine blk_drewN ?_ _ | refine blk_drew ?_ | refine blk_alloc ?_ _)); refine blk_far ?_ NB234_240.out _; (with_reducible repeat (first | refine blk_drewN ?_ _ | refine blk_drew ?_ | refine blk_alloc ?_ _)); exact BK234.out⟩
                                have n1_ : Aside0 (((((((w48.setCell ⟨gb240, 0, none⟩ (.int .i64 ((rd_T41 l0_5 x54_3).f0))).setCell ⟨gb240, 1, none⟩ (.int .i64 ((rd_T41 l0_5 x54_3).f1))).setCell ⟨gb240, 2, none⟩ (.bool ((rd_T41 l0_5 x54_3).f2))).setCell ⟨gb240, 3, none⟩ (.slice A239_3 ((rd_T41 l0_5 x54_3).f3).length c239_3)).setCell ⟨gb240, 4, none⟩ (.bool ((rd_T41 l0_5 x54_3).f4))).setCell ⟨gb240, 5, none⟩ (.slice A239_5 ((rd_T41 l0_5 x54_3).f5).length c239_5)).heap[gb240]? = some (.cells #[.int .i64 ((rd_T41 l0_5 x54_3).f0), .int .i64 ((rd_T41 l0_5 x54_3).f1), .bool ((rd_T41 l0_5 x54_3).f2), .slice A239_3 ((rd_T41 l0_5 x54_3).f3).length c239_3, .bool ((rd_T41 l0_5 x54_3).f4), .slice A239_5 ((rd_T41 l0_5 x54_3).f5).length c239_5] 41 (0, 0))) := ⟨by (with_reducible repeat (first | refine blk_drewN ?_ _ | refine blk_drew ?_ | refine blk_alloc ?_ _)); refine blk_put (cs := #[.int .i64 ((rd_T41 l0_5 x54_3).f0), .int .i64 ((rd_T41 l0_5 x54_3).f1), .bool ((rd_T41 l0_5 x54_3).f2), .slice A239_3 ((rd_T41 l0_5 x54_3).f3).length c239_3, .bool ((rd_T41 l0_5 x54_3).f4), .slice none 0 0]) ?_ 5 _ rfl; (with_reducible repeat (first | refine blk_drewN ?_ _ | refine blk_drew ?_ | refine blk_alloc ?_ _)); refine blk_put (cs := #[.int .i64 ((rd_T41 l0_5 x54_3).f0), .int .i64 ((rd_T41 l0_5 x54_3).f1), .bool ((rd_T41 l0_5 x54_3).f2), .slice A239_3 ((rd_T41 l0_5 x54_3).f3).length c239_3, .bool false, .slice none 0 0]) ?_ 4 _ rfl; (with_reducible repeat (first | refine blk_drewN ?_ _ | refine blk_drew ?_ | refine blk_alloc ?_ _)); refine blk_put (cs := #[.int .i64 ((rd_T41 l0_5 x54_3).f0), .int .i64 ((rd_T41 l0_5 x54_3).f1), .bool ((rd_T41 l0_5 x54_3).f2), .slice none 0 0, .bool false, .slice none 0 0]) ?_ 3 _ rfl; (with_reducible repeat (first | refine blk_drewN ?_ _ | refine blk_drew ?_ | refine blk_alloc ?_ _)); refine blk_put (cs := #[.int .i64 ((rd_T41 l0_5 x54_3).f0), .int .i64 ((rd_T41 l0_5 x54_3).f1), .bool false, .slice none 0 0, .bool false, .slice none 0 0]) ?_ 2 _ rfl; (with_reducible repeat (first | refine blk_drewN ?_ _ | refine blk_drew ?_ | refine blk_alloc ?_ _)); refine blk_put (cs := #[.int .i64 ((rd_T41 l0_5 x54_3).f0), .int .i64 0, .bool false, .slice none 0 0, .bool false, .slice none 0 0]) ?_ 1 _ rfl; (with_reducible repeat (first | refine blk_drewN ?_ _ | refine blk_drew ?_ | refine blk_alloc ?_ _)); refine blk_put (cs := #[.int .i64 0, .int .i64 0, .bool false, .slice none 0 0, .bool false, .slice none 0 0]) ?_ 0 _ rfl; (with_reducible repeat (first | refine blk_drewN ?_ _ | refine blk_drew ?_ | refine blk_alloc ?_ _)); exact BK240.out⟩
                                have n2_ : Aside0 (Below w.heap.size w ((((((w48.setCell ⟨gb240, 0, none⟩ (.int .i64 ((rd_T41 l0_5 x54_3).f0))).setCell ⟨gb240, 1, none⟩ (.int .i64 ((rd_T41 l0_5 x54_3).f1))).setCell ⟨gb240, 2, none⟩ (.bool ((rd_T41 l0_5 x54_3).f2))).setCell ⟨gb240, 3, none⟩ (.slice A239_3 ((rd_T41 l0_5 x54_3).f3).length c239_3)).setCell ⟨gb240, 4, none⟩ (.bool ((rd_T41 l0_5 x54_3).f4))).setCell ⟨gb240, 5, none⟩ (.slice A239_5 ((rd_T41 l0_5 x54_3).f5).length c239_5))) := ⟨by repeat (first | (with_reducible first | exact HB.out | apply below_alloc | apply pw_below_drewN | apply below_drew1 | refine below_set ?_ GE234.out | refine below_set ?_ GE240.out) | exact HB.out)⟩
                                (try clear BK234)
                                (try clear BK240)
                                (try clear HB)
                                generalize ((((((w48.setCell ⟨gb240, 0, none⟩ (.int .i64 ((rd_T41 l0_5 x54_3).f0))).setCell ⟨gb240, 1, none⟩ (.int .i64 ((rd_T41 l0_5 x54_3).f1))).setCell ⟨gb240, 2, none⟩ (.bool ((rd_T41 l0_5 x54_3).f2))).setCell ⟨gb240, 3, none⟩ (.slice A239_3 ((rd_T41 l0_5 x54_3).f3).length c239_3)).setCell ⟨gb240, 4, none⟩ (.bool ((rd_T41 l0_5 x54_3).f4))).setCell ⟨gb240, 5, none⟩ (.slice A239_5 ((rd_T41 l0_5 x54_3).f5).length c239_5)) = w51 at n0_ n1_ n2_ ⊢
                                have BK234 := n0_
                                have BK240 := n1_
                                have HB := n2_
                                clear n0_ n1_ n2_
                                have p242 : 0 ≤ ((ji38) : Int) := of_decide_eq_true (by first | (with_reducible assumption) | assumption)
                                have q242 : (ji38) < (l0_5.length : Int) := of_decide_eq_true (by first | (with_reducible assumption) | assumption)
                                obtain ⟨ad242, A242_3, c242_3, A242_5, c242_5, e242, hx242_0, hx242_1, hx242_2, hx242_3, hx242_4, hx242_5, hl242_3, hi242_3, hl242_5, hi242_5⟩ := at_T41 HR0_5.out (ji38) p242 q242
                                have hw242_5 := hx242_5
                                have hw242_4 := hx242_4
                                have hw242_3 := hx242_3
                                have hw242_2 := hx242_2
                                have hw242_1 := hx242_1
                                have hw242_0 := hx242_0
                                obtain rfl : ad239 = ad242 := (by injection e242)
                                replace hx242_0 := (HB.out.cell (World.block_lt_of_cell? w _ hx242_0)).trans hx242_0
                                replace hx242_1 := (HB.out.cell (World.block_lt_of_cell? w _ hx242_1)).trans hx242_1
                                replace hx242_2 := (HB.out.cell (World.block_lt_of_cell? w _ hx242_2)).trans hx242_2
                                replace hx242_3 := (HB.out.cell (World.block_lt_of_cell? w _ hx242_3)).trans hx242_3
                                replace hx242_4 := (HB.out.cell (World.block_lt_of_cell? w _ hx242_4)).trans hx242_4
                                replace hx242_5 := (HB.out.cell (World.block_lt_of_cell? w _ hx242_5)).trans hx242_5
                                have HR242_3 := Aside0.mk hi242_3
                                have HC242_3 := Aside0.mk hl242_3
                                clear hi242_3 hl242_3
                                have HR242_5 := Aside0.mk hi242_5
                                have HC242_5 := Aside0.mk hl242_5
                                clear hi242_5 hl242_5
                                replace p242 := eq_true p242
                                replace q242 := eq_true q242
                                have q0 := fun (p : BelowBy w51) => p.cell ((blk_cell BK240.out 0).trans rfl)
                                have q1 := fun (p : BelowBy w51) => p.cell ((blk_cell BK240.out 1).trans rfl)
                                have q2 := fun (p : BelowBy w51) => p.cell ((blk_cell BK240.out 2).trans rfl)
                                have q3 := fun (p : BelowBy w51) => p.cell ((blk_cell BK240.out 3).trans rfl)
                                have q4 := fun (p : BelowBy w51) => p.cell ((blk_cell BK240.out 4).trans rfl)
                                have q5 := fun (p : BelowBy w51) => p.cell ((blk_cell BK240.out 5).trans rfl)
                                have b0 := fun (p : BelowBy w51) => p.cell ((blk_cell BK234.out 0).trans rfl)
                                have b1 := fun (p : BelowBy w51) => p.cell ((blk_cell BK234.out 1).trans rfl)
                                have b2 := fun (p : BelowBy w51) => p.cell ((blk_cell BK234.out 2).trans rfl)
                                have b3 := fun (p : BelowBy w51) => p.cell ((blk_cell BK234.out 3).trans rfl)
                                have b4 := fun (p : BelowBy w51) => p.cell ((blk_cell BK234.out 4).trans rfl)
                                have b5 := fun (p : BelowBy w51) => p.cell ((blk_cell BK234.out 5).trans rfl)
                                have z0 := fun (p : BelowBy w51) => p.cell hx242_0
                                have PQ := Aside0.mk (fun (p : BelowBy w51) => Calls.below_of (impl_RecordValid.calls k3 ((rd_T41 l0_5 x54_3).f0) ((rd_T41 l0_5 x54_3).f1) ((rd_T41 l0_5 x54_3).f2) _ _ ((rd_T41 l0_5 x54_3).f3) ((rd_T41 l0_5 x54_3).f4) _ _ ((rd_T41 l0_5 x54_3).f5) true p.wd (Kd.C_below HR239_3.out (below_step HB.out p.h)) HC239_3.out (Kd.C_below HR239_5.out (below_step HB.out p.h)) HC239_5.out A35.out))
                                refine wp_region_quiet_below (by first | assumption | kernel_rfl) (by kernel_rfl) ?_
                                repeat (go_big_quiet_step (first | (go_at_call 30; with_reducible exact PQ.out _)))
                                refine wpQuiet_nil ?_
                                intro wq hw_
                                have hwq := BelowBy.spec hw_
                                clear hw_ PQ q0 q1 q2 q3 q4 q5 b0 b1 b2 b3 b4 b5 z0
                                replace HB := Aside0.mk (below_step HB.out hwq)
                                replace BK234 := Aside0.mk (blk_below BK234.out hwq)
                                replace BK240 := Aside0.mk (blk_below BK240.out hwq)
                                clear hwq
                                try go_wp2
                                go_roundg k3
                                case measure => have := HJ1.out; have := HJ22.out; have := HK3.out; omega
                                case rel => exact ⟨(wrap64 (x54_3 + 1)), (by first | rfl | (simp; done) | (simp [*]; done)), H', ⟨by have := HJ1.out; have := HJ22.out; have := HK3.out; omega⟩, ⟨by (with_reducible repeat (first | refine blk_drewN ?_ _ | refine blk_drew ?_ | refine blk_alloc ?_ _)); exact BK234.out⟩, ⟨by repeat (first | (with_reducible first | exact HB.out | apply below_alloc | apply pw_below_drewN | apply below_drew1 | refine below_set ?_ GE234.out | refine below_set ?_ GE240.out) | exact HB.out)⟩⟩
                            · rw [if_neg c40] at H
                              exact absurd H (by simp)
                          · rw [if_neg c39] at H
                            exact absurd H (by simp)
                        · rw [if_neg c37] at H
                          have c37b0 : decide (0 < x54_3) = false := decide_eq_false c37
                          clear c37
                          have H' := Aside0.mk H
                          clear H
                          have p239 : 0 ≤ (x54_3 : Int) := of_decide_eq_true (by first | (with_reducible assumption) | assumption)
                          have q239 : x54_3 < (l0_5.length : Int) := of_decide_eq_true (by first | (with_reducible assumption) | assumption)
                          obtain ⟨ad239, A239_3, c239_3, A239_5, c239_5, e239, hx239_0, hx239_1, hx239_2, hx239_3, hx239_4, hx239_5, hl239_3, hi239_3, hl239_5, hi239_5⟩ := at_T41 HR0_5.out x54_3 p239 q239
                          cases e239
                          replace hx239_0 := (HB.out.cell (World.block_lt_of_cell? w _ hx239_0)).trans hx239_0
                          replace hx239_1 := (HB.out.cell (World.block_lt_of_cell? w _ hx239_1)).trans hx239_1
                          replace hx239_2 := (HB.out.cell (World.block_lt_of_cell? w _ hx239_2)).trans hx239_2
                          replace hx239_3 := (HB.out.cell (World.block_lt_of_cell? w _ hx239_3)).trans hx239_3
                          replace hx239_4 := (HB.out.cell (World.block_lt_of_cell? w _ hx239_4)).trans hx239_4
                          replace hx239_5 := (HB.out.cell (World.block_lt_of_cell? w _ hx239_5)).trans hx239_5
                          have HR239_3 := Aside0.mk hi239_3
                          have HC239_3 := Aside0.mk hl239_3
                          clear hi239_3 hl239_3
                          have HR239_5 := Aside0.mk hi239_5
                          have HC239_5 := Aside0.mk hl239_5
                          clear hi239_5 hl239_5
                          replace p239 := eq_true p239
                          replace q239 := eq_true q239
                          try go_wp2_with (first | ((with_reducible refine gate_dst (N := 4) rfl ?_); (try (refine gate_guard (by rfl) ?_; dsimp only)); refine box_event ?hg (N := 4) ?hd (cs := #[.int .i64 0, .int .i64 0, .bool false, .slice none 0 0, .bool false, .slice none 0 0]) (t := 41) ?hr ?_; (case hd => rfl); (case hg => rfl); (case hr => first | (go_simp; done) | (go_simp; rfl)); intro gb240 hg w54 hbox hb; have n0_ := Aside0.mk (blk_below (g := gb234) (o := .cells #[.bool a0_0, .bool a0_1, .int .i64 a0_2, .int .i64 a0_3, .int .i64 a0_4, .slice (some ad239) l0_5.length c0_5] 28 (0, 0)) (by (with_reducible repeat (first | refine blk_drewN ?_ _ | refine blk_drew ?_ | refine blk_alloc ?_ _)); exact BK234.out) hb); have n1_ := Aside0.mk (below_step (by repeat (first | (with_reducible first | exact HB.out | apply below_alloc | apply pw_below_drewN | apply below_drew1 | refine below_set ?_ GE234.out) | exact HB.out)) hb); have n2_ := Aside0.mk (hbox); have n3_ := Aside0.mk ((by rw [hg]; exact (below_size (by repeat (first | (with_reducible first | exact HB.out | apply below_alloc | apply pw_below_drewN | apply below_drew1 | refine below_set ?_ GE234.out) | exact HB.out))) : w.heap.size ≤ gb240)); have n4_ := Aside0.mk ((by rw [hg]; exact (below_size (by repeat (first | (with_reducible first | exact HB.out | apply below_alloc | apply pw_below_drewN | apply below_drew1 | refine below_set ?_ GE234.out) | exact HB.out))) : w.heap.size ≤ gb240)); have n5_ := Aside0.mk ((by rw [hg]; exact Nat.ne_of_lt (blk_lt (g := gb234) (o := .cells #[.bool a0_0, .bool a0_1, .int .i64 a0_2, .int .i64 a0_3, .int .i64 a0_4, .slice (some ad239) l0_5.length c0_5] 28 (0, 0)) (by (with_reducible repeat (first | refine blk_drewN ?_ _ | refine blk_drew ?_ | refine blk_alloc ?_ _)); exact BK234.out)) : gb234 ≠ gb240)); have n6_ := Aside0.mk ((by rw [hg]; exact Nat.ne_of_gt (blk_lt (g := gb234) (o := .cells #[.bool a0_0, .bool a0_1, .int .i64 a0_2, .int .i64 a0_3, .int .i64 a0_4, .slice (some ad239) l0_5.length c0_5] 28 (0, 0)) (by (with_reducible repeat (first | refine blk_drewN ?_ _ | refine blk_drew ?_ | refine blk_alloc ?_ _)); exact BK234.out)) : gb240 ≠ gb234)); clear BK234; clear HB; have BK234 := n0_; have HB := n1_; have BK240 := n2_; have GW240 := n3_; have GE240 := n4_; have NB234_240 := n5_; have NB240_234 := n6_; clear n0_ n1_ n2_ n3_ n4_ n5_ n6_; clear hb hbox hg; have hnb55 := NB240_234.out; have hnc55 := NB234_240.out; have hcz56_0 : w54.cell? ⟨gb240, 0, none⟩ = some (.int .i64 0) := (blk_cell BK240.out 0).trans rfl; have hcz56_1 : w54.cell? ⟨gb240, 1, none⟩ = some (.int .i64 0) := (blk_cell BK240.out 1).trans rfl; have hcz56_2 : w54.cell? ⟨gb240, 2, none⟩ = some (.bool false) := (blk_cell BK240.out 2).trans rfl; have hcz56_3 : w54.cell? ⟨gb240, 3, none⟩ = some (.slice none 0 0) := (blk_cell BK240.out 3).trans rfl; have hcz56_4 : w54.cell? ⟨gb240, 4, none⟩ = some (.bool false) := (blk_cell BK240.out 4).trans rfl; have hcz56_5 : w54.cell? ⟨gb240, 5, none⟩ = some (.slice none 0 0) := (blk_cell BK240.out 5).trans rfl; have hfz56_0 := blk_frozen BK240.out 0; have hfz56_1 := blk_frozen BK240.out 1; have hfz56_2 := blk_frozen BK240.out 2; have hfz56_3 := blk_frozen BK240.out 3; have hfz56_4 := blk_frozen BK240.out 4; have hfz56_5 := blk_frozen BK240.out 5))
                          have n0_ : Aside0 (((((((w54.setCell ⟨gb240, 0, none⟩ (.int .i64 ((rd_T41 l0_5 x54_3).f0))).setCell ⟨gb240, 1, none⟩ (.int .i64 ((rd_T41 l0_5 x54_3).f1))).setCell ⟨gb240, 2, none⟩ (.bool ((rd_T41 l0_5 x54_3).f2))).setCell ⟨gb240, 3, none⟩ (.slice A239_3 ((rd_T41 l0_5 x54_3).f3).length c239_3)).setCell ⟨gb240, 4, none⟩ (.bool ((rd_T41 l0_5 x54_3).f4))).setCell ⟨gb240, 5, none⟩ (.slice A239_5 ((rd_T41 l0_5 x54_3).f5).length c239_5)).heap[gb234]? = some (.cells #[.bool a0_0, .bool a0_1, .int .i64 a0_2, .int .i64 a0_3, .int .i64 a0_4, .slice (some ad239) l0_5.length c0_5] 28 (0, 0))) := ⟨by (with_reducible repeat (first | refine blk_drewN ?_ _ | refine blk_drew ?_ | refine blk_alloc ?_ _)); refine blk_far ?_ NB234_240.out _; (with_reducible repeat (first | refine blk_drewN ?_ _ | refine blk_drew ?_ | refine blk_alloc ?_ _)); refine blk_far ?_ NB234_240.out _; (with_reducible repeat (first | refine blk_drewN ?_ _ | refine blk_drew ?_ | refine blk_alloc ?_ _)); refine blk_far ?_ NB234_240.out _; (with_reducible repeat (first | refine blk_drewN ?_ _ | refine blk_drew ?_ | refine blk_alloc ?_ _)); refine blk_far ?_ NB234_240.out _; (with_reducible repeat (first | refine blk_drewN ?_ _ | refine blk_drew ?_ | refine blk_alloc ?_ _)); refine blk_far ?_ NB234_240.out _; (with_reducible repeat (first | refine blk_drewN ?_ _ | refine blk_drew ?_ | refine blk_alloc ?_ _)); refine blk_far ?_ NB234_240.out _; (with_reducible repeat (first | refine blk_drewN ?_ _ | refine blk_drew ?_ | refine blk_alloc ?_ _)); exact BK234.out⟩
                          have n1_ : Aside0 (((((((w54.setCell ⟨gb240, 0, none⟩ (.int .i64 ((rd_T41 l0_5 x54_3).f0))).setCell ⟨gb240, 1, none⟩ (.int .i64 ((rd_T41 l0_5 x54_3).f1))).setCell ⟨gb240, 2, none⟩ (.bool ((rd_T41 l0_5 x54_3).f2))).setCell ⟨gb240, 3, none⟩ (.slice A239_3 ((rd_T41 l0_5 x54_3).f3).length c239_3)).setCell ⟨gb240, 4, none⟩ (.bool ((rd_T41 l0_5 x54_3).f4))).setCell ⟨gb240, 5, none⟩ (.slice A239_5 ((rd_T41 l0_5 x54_3).f5).length c239_5)).heap[gb240]? = some (.cells #[.int .i64 ((rd_T41 l0_5 x54_3).f0), .int .i64 ((rd_T41 l0_5 x54_3).f1), .bool ((rd_T41 l0_5 x54_3).f2), .slice A239_3 ((rd_T41 l0_5 x54_3).f3).length c239_3, .bool ((rd_T41 l0_5 x54_3).f4), .slice A239_5 ((rd_T41 l0_5 x54_3).f5).length c239_5] 41 (0, 0))) := ⟨by (with_reducible repeat (first | refine blk_drewN ?_ _ | refine blk_drew ?_ | refine blk_alloc ?_ _)); refine blk_put (cs := #[.int .i64 ((rd_T41 l0_5 x54_3).f0), .int .i64 ((rd_T41 l0_5 x54_3).f1), .bool ((rd_T41 l0_5 x54_3).f2), .slice A239_3 ((rd_T41 l0_5 x54_3).f3).length c239_3, .bool ((rd_T41 l0_5 x54_3).f4), .slice none 0 0]) ?_ 5 _ rfl; (with_reducible repeat (first | refine blk_drewN ?_ _ | refine blk_drew ?_ | refine blk_alloc ?_ _)); refine blk_put (cs := #[.int .i64 ((rd_T41 l0_5 x54_3).f0), .int .i64 ((rd_T41 l0_5 x54_3).f1), .bool ((rd_T41 l0_5 x54_3).f2), .slice A239_3 ((rd_T41 l0_5 x54_3).f3).length c239_3, .bool false, .slice none 0 0]) ?_ 4 _ rfl; (with_reducible repeat (first | refine blk_drewN ?_ _ | refine blk_drew ?_ | refine blk_alloc ?_ _)); refine blk_put (cs := #[.int .i64 ((rd_T41 l0_5 x54_3).f0), .int .i64 ((rd_T41 l0_5 x54_3).f1), .bool ((rd_T41 l0_5 x54_3).f2), .slice none 0 0, .bool false, .slice none 0 0]) ?_ 3 _ rfl; (with_reducible repeat (first | refine blk_drewN ?_ _ | refine blk_drew ?_ | refine blk_alloc ?_ _)); refine blk_put (cs := #[.int .i64 ((rd_T41 l0_5 x54_3).f0), .int .i64 ((rd_T41 l0_5 x54_3).f1), .bool false, .slice none 0 0, .bool false, .slice none 0 0]) ?_ 2 _ rfl; (with_reducible repeat (first | refine blk_drewN ?_ _ | refine blk_drew ?_ | refine blk_alloc ?_ _)); refine blk_put (cs := #[.int .i64 ((rd_T41 l0_5 x54_3).f0), .int .i64 0, .bool false, .slice none 0 0, .bool false, .slice none 0 0]) ?_ 1 _ rfl; (with_reducible repeat (first | refine blk_drewN ?_ _ | refine blk_drew ?_ | refine blk_alloc ?_ _)); refine blk_put (cs := #[.int .i64 0, .int .i64 0, .bool false, .slice none 0 0, .bool false, .slice none 0 0]) ?_ 0 _ rfl; (with_reducible repeat (first | refine blk_drewN ?_ _ | refine blk_drew ?_ | refine blk_alloc ?_ _)); exact BK240.out⟩
                          have n2_ : Aside0 (Below w.heap.size w ((((((w54.setCell ⟨gb240, 0, none⟩ (.int .i64 ((rd_T41 l0_5 x54_3).f0))).setCell ⟨gb240, 1, none⟩ (.int .i64 ((rd_T41 l0_5 x54_3).f1))).setCell ⟨gb240, 2, none⟩ (.bool ((rd_T41 l0_5 x54_3).f2))).setCell ⟨gb240, 3, none⟩ (.slice A239_3 ((rd_T41 l0_5 x54_3).f3).length c239_3)).setCell ⟨gb240, 4, none⟩ (.bool ((rd_T41 l0_5 x54_3).f4))).setCell ⟨gb240, 5, none⟩ (.slice A239_5 ((rd_T41 l0_5 x54_3).f5).length c239_5))) := ⟨by repeat (first | (with_reducible first | exact HB.out | apply below_alloc | apply pw_below_drewN | apply below_drew1 | refine below_set ?_ GE234.out | refine below_set ?_ GE240.out) | exact HB.out)⟩
                          (try clear BK234)
                          (try clear BK240)
                          (try clear HB)
                          generalize ((((((w54.setCell ⟨gb240, 0, none⟩ (.int .i64 ((rd_T41 l0_5 x54_3).f0))).setCell ⟨gb240, 1, none⟩ (.int .i64 ((rd_T41 l0_5 x54_3).f1))).setCell ⟨gb240, 2, none⟩ (.bool ((rd_T41 l0_5 x54_3).f2))).setCell ⟨gb240, 3, none⟩ (.slice A239_3 ((rd_T41 l0_5 x54_3).f3).length c239_3)).setCell ⟨gb240, 4, none⟩ (.bool ((rd_T41 l0_5 x54_3).f4))).setCell ⟨gb240, 5, none⟩ (.slice A239_5 ((rd_T41 l0_5 x54_3).f5).length c239_5)) = w57 at n0_ n1_ n2_ ⊢
                          have BK234 := n0_
                          have BK240 := n1_
                          have HB := n2_
                          clear n0_ n1_ n2_
                          have q0 := fun (p : BelowBy w57) => p.cell ((blk_cell BK240.out 0).trans rfl)
                          have q1 := fun (p : BelowBy w57) => p.cell ((blk_cell BK240.out 1).trans rfl)
                          have q2 := fun (p : BelowBy w57) => p.cell ((blk_cell BK240.out 2).trans rfl)
                          have q3 := fun (p : BelowBy w57) => p.cell ((blk_cell BK240.out 3).trans rfl)
                          have q4 := fun (p : BelowBy w57) => p.cell ((blk_cell BK240.out 4).trans rfl)
                          have q5 := fun (p : BelowBy w57) => p.cell ((blk_cell BK240.out 5).trans rfl)
                          have b0 := fun (p : BelowBy w57) => p.cell ((blk_cell BK234.out 0).trans rfl)
                          have b1 := fun (p : BelowBy w57) => p.cell ((blk_cell BK234.out 1).trans rfl)
                          have b2 := fun (p : BelowBy w57) => p.cell ((blk_cell BK234.out 2).trans rfl)
                          have b3 := fun (p : BelowBy w57) => p.cell ((blk_cell BK234.out 3).trans rfl)
                          have b4 := fun (p : BelowBy w57) => p.cell ((blk_cell BK234.out 4).trans rfl)
                          have b5 := fun (p : BelowBy w57) => p.cell ((blk_cell BK234.out 5).trans rfl)
                          have PQ := Aside0.mk (fun (p : BelowBy w57) => Calls.below_of (impl_RecordValid.calls k3 ((rd_T41 l0_5 x54_3).f0) ((rd_T41 l0_5 x54_3).f1) ((rd_T41 l0_5 x54_3).f2) _ _ ((rd_T41 l0_5 x54_3).f3) ((rd_T41 l0_5 x54_3).f4) _ _ ((rd_T41 l0_5 x54_3).f5) true p.wd (Kd.C_below HR239_3.out (below_step HB.out p.h)) HC239_3.out (Kd.C_below HR239_5.out (below_step HB.out p.h)) HC239_5.out A35.out))
                          refine wp_region_quiet_below (by first | assumption | kernel_rfl) (by kernel_rfl) ?_
                          repeat (go_big_quiet_step (first | (go_at_call 30; with_reducible exact PQ.out _)))
                          refine wpQuiet_nil ?_
                          intro wq hw_
                          have hwq := BelowBy.spec hw_
                          clear hw_ PQ q0 q1 q2 q3 q4 q5 b0 b1 b2 b3 b4 b5
                          replace HB := Aside0.mk (below_step HB.out hwq)
                          replace BK234 := Aside0.mk (blk_below BK234.out hwq)
                          replace BK240 := Aside0.mk (blk_below BK240.out hwq)
                          clear hwq
                          try go_wp2
                          go_roundg k3
                          case measure => have := HJ1.out; have := HJ22.out; have := HK3.out; omega
                          case rel => exact ⟨(wrap64 (x54_3 + 1)), (by first | rfl | (simp; done) | (simp [*]; done)), H', ⟨by have := HJ1.out; have := HJ22.out; have := HK3.out; omega⟩, ⟨by (with_reducible repeat (first | refine blk_drewN ?_ _ | refine blk_drew ?_ | refine blk_alloc ?_ _)); exact BK234.out⟩, ⟨by repeat (first | (with_reducible first | exact HB.out | apply below_alloc | apply pw_below_drewN | apply below_drew1 | refine below_set ?_ GE234.out | refine below_set ?_ GE240.out) | exact HB.out)⟩⟩
                      · replace c36 := Bool.eq_false_iff.mpr c36
                        subst c36
                        have H1 : (some false) = some r := by rw [if_neg (show ¬ (false = true) by decide)] at H; exact H
                        clear H
                        have H := H1
                        clear H1
                        obtain rfl := Option.some.inj H
                        have p239 : 0 ≤ (x54_3 : Int) := of_decide_eq_true (by first | (with_reducible assumption) | assumption)
                        have q239 : x54_3 < (l0_5.length : Int) := of_decide_eq_true (by first | (with_reducible assumption) | assumption)
                        obtain ⟨ad239, A239_3, c239_3, A239_5, c239_5, e239, hx239_0, hx239_1, hx239_2, hx239_3, hx239_4, hx239_5, hl239_3, hi239_3, hl239_5, hi239_5⟩ := at_T41 HR0_5.out x54_3 p239 q239
                        cases e239
                        replace hx239_0 := (HB.out.cell (World.block_lt_of_cell? w _ hx239_0)).trans hx239_0
                        replace hx239_1 := (HB.out.cell (World.block_lt_of_cell? w _ hx239_1)).trans hx239_1
                        replace hx239_2 := (HB.out.cell (World.block_lt_of_cell? w _ hx239_2)).trans hx239_2
                        replace hx239_3 := (HB.out.cell (World.block_lt_of_cell? w _ hx239_3)).trans hx239_3
                        replace hx239_4 := (HB.out.cell (World.block_lt_of_cell? w _ hx239_4)).trans hx239_4
                        replace hx239_5 := (HB.out.cell (World.block_lt_of_cell? w _ hx239_5)).trans hx239_5
                        have HR239_3 := Aside0.mk hi239_3
                        have HC239_3 := Aside0.mk hl239_3
                        clear hi239_3 hl239_3
                        have HR239_5 := Aside0.mk hi239_5
                        have HC239_5 := Aside0.mk hl239_5
                        clear hi239_5 hl239_5
                        replace p239 := eq_true p239
                        replace q239 := eq_true q239
                        try go_wp2_with (first | ((with_reducible refine gate_dst (N := 4) rfl ?_); (try (refine gate_guard (by rfl) ?_; dsimp only)); refine box_event ?hg (N := 4) ?hd (cs := #[.int .i64 0, .int .i64 0, .bool false, .slice none 0 0, .bool false, .slice none 0 0]) (t := 41) ?hr ?_; (case hd => rfl); (case hg => rfl); (case hr => first | (go_simp; done) | (go_simp; rfl)); intro gb240 hg w60 hbox hb; have n0_ := Aside0.mk (blk_below (g := gb234) (o := .cells #[.bool a0_0, .bool a0_1, .int .i64 a0_2, .int .i64 a0_3, .int .i64 a0_4, .slice (some ad239) l0_5.length c0_5] 28 (0, 0)) (by (with_reducible repeat (first | refine blk_drewN ?_ _ | refine blk_drew ?_ | refine blk_alloc ?_ _)); exact BK234.out) hb); have n1_ := Aside0.mk (below_step (by repeat (first | (with_reducible first | exact HB.out | apply below_alloc | apply pw_below_drewN | apply below_drew1 | refine below_set ?_ GE234.out) | exact HB.out)) hb); have n2_ := Aside0.mk (hbox); have n3_ := Aside0.mk ((by rw [hg]; exact (below_size (by repeat (first | (with_reducible first | exact HB.out | apply below_alloc | apply pw_below_drewN | apply below_drew1 | refine below_set ?_ GE234.out) | exact HB.out))) : w.heap.size ≤ gb240)); have n4_ := Aside0.mk ((by rw [hg]; exact (below_size (by repeat (first | (with_reducible first | exact HB.out | apply below_alloc | apply pw_below_drewN | apply below_drew1 | refine below_set ?_ GE234.out) | exact HB.out))) : w.heap.size ≤ gb240)); have n5_ := Aside0.mk ((by rw [hg]; exact Nat.ne_of_lt (blk_lt (g := gb234) (o := .cells #[.bool a0_0, .bool a0_1, .int .i64 a0_2, .int .i64 a0_3, .int .i64 a0_4, .slice (some ad239) l0_5.length c0_5] 28 (0, 0)) (by (with_reducible repeat (first | refine blk_drewN ?_ _ | refine blk_drew ?_ | refine blk_alloc ?_ _)); exact BK234.out)) : gb234 ≠ gb240)); have n6_ := Aside0.mk ((by rw [hg]; exact Nat.ne_of_gt (blk_lt (g := gb234) (o := .cells #[.bool a0_0, .bool a0_1, .int .i64 a0_2, .int .i64 a0_3, .int .i64 a0_4, .slice (some ad239) l0_5.length c0_5] 28 (0, 0)) (by (with_reducible repeat (first | refine blk_drewN ?_ _ | refine blk_drew ?_ | refine blk_alloc ?_ _)); exact BK234.out)) : gb240 ≠ gb234)); clear BK234; clear HB; have BK234 := n0_; have HB := n1_; have BK240 := n2_; have GW240 := n3_; have GE240 := n4_; have NB234_240 := n5_; have NB240_234 := n6_; clear n0_ n1_ n2_ n3_ n4_ n5_ n6_; clear hb hbox hg; have hnb61 := NB240_234.out; have hnc61 := NB234_240.out; have hcz62_0 : w60.cell? ⟨gb240, 0, none⟩ = some (.int .i64 0) := (blk_cell BK240.out 0).trans rfl; have hcz62_1 : w60.cell? ⟨gb240, 1, none⟩ = some (.int .i64 0) := (blk_cell BK240.out 1).trans rfl; have hcz62_2 : w60.cell? ⟨gb240, 2, none⟩ = some (.bool false) := (blk_cell BK240.out 2).trans rfl; have hcz62_3 : w60.cell? ⟨gb240, 3, none⟩ = some (.slice none 0 0) := (blk_cell BK240.out 3).trans rfl; have hcz62_4 : w60.cell? ⟨gb240, 4, none⟩ = some (.bool false) := (blk_cell BK240.out 4).trans rfl; have hcz62_5 : w60.cell? ⟨gb240, 5, none⟩ = some (.slice none 0 0) := (blk_cell BK240.out 5).trans rfl; have hfz62_0 := blk_frozen BK240.out 0; have hfz62_1 := blk_frozen BK240.out 1; have hfz62_2 := blk_frozen BK240.out 2; have hfz62_3 := blk_frozen BK240.out 3; have hfz62_4 := blk_frozen BK240.out 4; have hfz62_5 := blk_frozen BK240.out 5))
                        have n0_ : Aside0 (((((((w60.setCell ⟨gb240, 0, none⟩ (.int .i64 ((rd_T41 l0_5 x54_3).f0))).setCell ⟨gb240, 1, none⟩ (.int .i64 ((rd_T41 l0_5 x54_3).f1))).setCell ⟨gb240, 2, none⟩ (.bool ((rd_T41 l0_5 x54_3).f2))).setCell ⟨gb240, 3, none⟩ (.slice A239_3 ((rd_T41 l0_5 x54_3).f3).length c239_3)).setCell ⟨gb240, 4, none⟩ (.bool ((rd_T41 l0_5 x54_3).f4))).setCell ⟨gb240, 5, none⟩ (.slice A239_5 ((rd_T41 l0_5 x54_3).f5).length c239_5)).heap[gb234]? = some (.cells #[.bool a0_0, .bool a0_1, .int .i64 a0_2, .int .i64 a0_3, .int .i64 a0_4, .slice (some ad239) l0_5.length c0_5] 28 (0, 0))) := ⟨by (with_reducible repeat (first | refine blk_drewN ?_ _ | refine blk_drew ?_ | refine blk_alloc ?_ _)); refine blk_far ?_ NB234_240.out _; (with_reducible repeat (first | refine blk_drewN ?_ _ | refine blk_drew ?_ | refine blk_alloc ?_ _)); refine blk_far ?_ NB234_240.out _; (with_reducible repeat (first | refine blk_drewN ?_ _ | refine blk_drew ?_ | refine blk_alloc ?_ _)); refine blk_far ?_ NB234_240.out _; (with_reducible repeat (first | refine blk_drewN ?_ _ | refine blk_drew ?_ | refine blk_alloc ?_ _)); refine blk_far ?_ NB234_240.out _; (with_reducible repeat (first | refine blk_drewN ?_ _ | refine blk_drew ?_ | refine blk_alloc ?_ _)); refine blk_far ?_ NB234_240.out _; (with_reducible repeat (first | refine blk_drewN ?_ _ | refine blk_drew ?_ | refine blk_alloc ?_ _)); refine blk_far ?_ NB234_240.out _; (with_reducible repeat (first | refine blk_drewN ?_ _ | refine blk_drew ?_ | refine blk_alloc ?_ _)); exact BK234.out⟩
                        have n1_ : Aside0 (((((((w60.setCell ⟨gb240, 0, none⟩ (.int .i64 ((rd_T41 l0_5 x54_3).f0))).setCell ⟨gb240, 1, none⟩ (.int .i64 ((rd_T41 l0_5 x54_3).f1))).setCell ⟨gb240, 2, none⟩ (.bool ((rd_T41 l0_5 x54_3).f2))).setCell ⟨gb240, 3, none⟩ (.slice A239_3 ((rd_T41 l0_5 x54_3).f3).length c239_3)).setCell ⟨gb240, 4, none⟩ (.bool ((rd_T41 l0_5 x54_3).f4))).setCell ⟨gb240, 5, none⟩ (.slice A239_5 ((rd_T41 l0_5 x54_3).f5).length c239_5)).heap[gb240]? = some (.cells #[.int .i64 ((rd_T41 l0_5 x54_3).f0), .int .i64 ((rd_T41 l0_5 x54_3).f1), .bool ((rd_T41 l0_5 x54_3).f2), .slice A239_3 ((rd_T41 l0_5 x54_3).f3).length c239_3, .bool ((rd_T41 l0_5 x54_3).f4), .slice A239_5 ((rd_T41 l0_5 x54_3).f5).length c239_5] 41 (0, 0))) := ⟨by (with_reducible repeat (first | refine blk_drewN ?_ _ | refine blk_drew ?_ | refine blk_alloc ?_ _)); refine blk_put (cs := #[.int .i64 ((rd_T41 l0_5 x54_3).f0), .int .i64 ((rd_T41 l0_5 x54_3).f1), .bool ((rd_T41 l0_5 x54_3).f2), .slice A239_3 ((rd_T41 l0_5 x54_3).f3).length c239_3, .bool ((rd_T41 l0_5 x54_3).f4), .slice none 0 0]) ?_ 5 _ rfl; (with_reducible repeat (first | refine blk_drewN ?_ _ | refine blk_drew ?_ | refine blk_alloc ?_ _)); refine blk_put (cs := #[.int .i64 ((rd_T41 l0_5 x54_3).f0), .int .i64 ((rd_T41 l0_5 x54_3).f1), .bool ((rd_T41 l0_5 x54_3).f2), .slice A239_3 ((rd_T41 l0_5 x54_3).f3).length c239_3, .bool false, .slice none 0 0]) ?_ 4 _ rfl; (with_reducible repeat (first | refine blk_drewN ?_ _ | refine blk_drew ?_ | refine blk_alloc ?_ _)); refine blk_put (cs := #[.int .i64 ((rd_T41 l0_5 x54_3).f0), .int .i64 ((rd_T41 l0_5 x54_3).f1), .bool ((rd_T41 l0_5 x54_3).f2), .slice none 0 0, .bool false, .slice none 0 0]) ?_ 3 _ rfl; (with_reducible repeat (first | refine blk_drewN ?_ _ | refine blk_drew ?_ | refine blk_alloc ?_ _)); refine blk_put (cs := #[.int .i64 ((rd_T41 l0_5 x54_3).f0), .int .i64 ((rd_T41 l0_5 x54_3).f1), .bool false, .slice none 0 0, .bool false, .slice none 0 0]) ?_ 2 _ rfl; (with_reducible repeat (first | refine blk_drewN ?_ _ | refine blk_drew ?_ | refine blk_alloc ?_ _)); refine blk_put (cs := #[.int .i64 ((rd_T41 l0_5 x54_3).f0), .int .i64 0, .bool false, .slice none 0 0, .bool false, .slice none 0 0]) ?_ 1 _ rfl; (with_reducible repeat (first | refine blk_drewN ?_ _ | refine blk_drew ?_ | refine blk_alloc ?_ _)); refine blk_put (cs := #[.int .i64 0, .int .i64 0, .bool false, .slice none 0 0, .bool false, .slice none 0 0]) ?_ 0 _ rfl; (with_reducible repeat (first | refine blk_drewN ?_ _ | refine blk_drew ?_ | refine blk_alloc ?_ _)); exact BK240.out⟩
                        have n2_ : Aside0 (Below w.heap.size w ((((((w60.setCell ⟨gb240, 0, none⟩ (.int .i64 ((rd_T41 l0_5 x54_3).f0))).setCell ⟨gb240, 1, none⟩ (.int .i64 ((rd_T41 l0_5 x54_3).f1))).setCell ⟨gb240, 2, none⟩ (.bool ((rd_T41 l0_5 x54_3).f2))).setCell ⟨gb240, 3, none⟩ (.slice A239_3 ((rd_T41 l0_5 x54_3).f3).length c239_3)).setCell ⟨gb240, 4, none⟩ (.bool ((rd_T41 l0_5 x54_3).f4))).setCell ⟨gb240, 5, none⟩ (.slice A239_5 ((rd_T41 l0_5 x54_3).f5).length c239_5))) := ⟨by repeat (first | (with_reducible first | exact HB.out | apply below_alloc | apply pw_below_drewN | apply below_drew1 | refine below_set ?_ GE234.out | refine below_set ?_ GE240.out) | exact HB.out)⟩
                        (try clear BK234)
                        (try clear BK240)
                        (try clear HB)
                        generalize ((((((w60.setCell ⟨gb240, 0, none⟩ (.int .i64 ((rd_T41 l0_5 x54_3).f0))).setCell ⟨gb240, 1, none⟩ (.int .i64 ((rd_T41 l0_5 x54_3).f1))).setCell ⟨gb240, 2, none⟩ (.bool ((rd_T41 l0_5 x54_3).f2))).setCell ⟨gb240, 3, none⟩ (.slice A239_3 ((rd_T41 l0_5 x54_3).f3).length c239_3)).setCell ⟨gb240, 4, none⟩ (.bool ((rd_T41 l0_5 x54_3).f4))).setCell ⟨gb240, 5, none⟩ (.slice A239_5 ((rd_T41 l0_5 x54_3).f5).length c239_5)) = w63 at n0_ n1_ n2_ ⊢
                        have BK234 := n0_
                        have BK240 := n1_
                        have HB := n2_
                        clear n0_ n1_ n2_
                        have q0 := fun (p : BelowBy w63) => p.cell ((blk_cell BK240.out 0).trans rfl)
                        have q1 := fun (p : BelowBy w63) => p.cell ((blk_cell BK240.out 1).trans rfl)
                        have q2 := fun (p : BelowBy w63) => p.cell ((blk_cell BK240.out 2).trans rfl)
                        have q3 := fun (p : BelowBy w63) => p.cell ((blk_cell BK240.out 3).trans rfl)
                        have q4 := fun (p : BelowBy w63) => p.cell ((blk_cell BK240.out 4).trans rfl)
                        have q5 := fun (p : BelowBy w63) => p.cell ((blk_cell BK240.out 5).trans rfl)
                        have b0 := fun (p : BelowBy w63) => p.cell ((blk_cell BK234.out 0).trans rfl)
                        have b1 := fun (p : BelowBy w63) => p.cell ((blk_cell BK234.out 1).trans rfl)
                        have b2 := fun (p : BelowBy w63) => p.cell ((blk_cell BK234.out 2).trans rfl)
                        have b3 := fun (p : BelowBy w63) => p.cell ((blk_cell BK234.out 3).trans rfl)
                        have b4 := fun (p : BelowBy w63) => p.cell ((blk_cell BK234.out 4).trans rfl)
                        have b5 := fun (p : BelowBy w63) => p.cell ((blk_cell BK234.out 5).trans rfl)
                        have PQ := Aside0.mk (fun (p : BelowBy w63) => Calls.below_of (impl_RecordValid.calls k3 ((rd_T41 l0_5 x54_3).f0) ((rd_T41 l0_5 x54_3).f1) ((rd_T41 l0_5 x54_3).f2) _ _ ((rd_T41 l0_5 x54_3).f3) ((rd_T41 l0_5 x54_3).f4) _ _ ((rd_T41 l0_5 x54_3).f5) false p.wd (Kd.C_below HR239_3.out (below_step HB.out p.h)) HC239_3.out (Kd.C_below HR239_5.out (below_step HB.out p.h)) HC239_5.out A35.out))
                        refine wp_region_quiet_below (by first | assumption | kernel_rfl) (by kernel_rfl) ?_
                        repeat (go_big_quiet_step (first | (go_at_call 30; with_reducible exact PQ.out _)))
                        refine wpQuiet_nil ?_
                        intro wq hw_
                        have hwq := BelowBy.spec hw_
                        clear hw_ PQ q0 q1 q2 q3 q4 q5 b0 b1 b2 b3 b4 b5
                        replace HB := Aside0.mk (below_step HB.out hwq)
                        replace BK234 := Aside0.mk (blk_below BK234.out hwq)
                        replace BK240 := Aside0.mk (blk_below BK240.out hwq)
                        clear hwq
                        try go_wp2
                        go_ret
                        exact ⟨by first | rfl | (simp [errW_none, errW_some] <;> rfl) | (simp [*, errW_none, errW_some] <;> rfl), by repeat (first | (with_reducible first | exact HB.out | apply below_alloc | apply pw_below_drewN | apply below_drew1 | refine below_set ?_ GE234.out | refine below_set ?_ GE240.out) | exact HB.out)⟩
                    · rw [if_neg c34] at H
                      exact absurd H (by simp)
                  · rw [if_neg c33] at H
                    exact absurd H (by simp)
                · rw [if_neg c32] at H
                  have c32b0 : decide (x54_3 < (l0_5.length : Int)) = false := decide_eq_false c32
                  clear c32
                  obtain rfl := Option.some.inj H
                  go_wp2
                  go_ret
                  exact ⟨by first | rfl | (simp [errW_none, errW_some] <;> rfl) | (simp [*, errW_none, errW_some] <;> rfl), by repeat (first | (with_reducible first | exact HB.out | apply below_alloc | apply pw_below_drewN | apply below_drew1 | refine below_set ?_ GE234.out) | exact HB.out)⟩

end Go.Proofs.YtlhbclblehmdbaaDoor.PFnExactBatchCut
