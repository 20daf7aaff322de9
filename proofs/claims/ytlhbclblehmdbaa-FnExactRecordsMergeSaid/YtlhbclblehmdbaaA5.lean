/- The contracts of the function that reads the marks again that FnExactRecordsMerge calls, for every argument that can be read: after print.sh's text. -/
import Derived.Test.YtlhbclblehmdbaaPFnExactRecordsMergex0
import Derived.Test.YtlhbclblehmdbaaA4
namespace Go.Proofs.Ytlhbclblehmdbaa.PFnExactRecordsMerge
open Go.RowKit Go.Proofs.YtlhbclblehmdbaaW.PrintWords Go.Proofs.YtlhbclblehmdbaaW.PrintLast Go.Proofs.YtlhbclblehmdbaaW.PrintMore
attribute [local go_sem] max2_int min2_int max_two min_two max_three min_three max_four min_four   -- for this text's walks alone
set_option linter.unusedVariables false
set_option linter.unusedSimpArgs false

/-! ### laws_heldRecordS: function 16 -/
def laws_heldRecordS.l0 : Nat → List (S58) → Int → Int → Option (Int)
  | 0, _, _, _ => none
  | k + 1, x0, x1, x5 => if x5 < (x0.length : Int) then (if 0 ≤ x5 then (if ((rd_T58 x0 x5).f0) = x1 then (if ((rd_T58 x0 x5).f1) = (wrap64 (x1 + 1)) then (if (((rd_T58 x0 x5).f2) != ((Int.tmod (wrap64 ((wrap64 (x1 + 1)) + 1)) 3) == 0)) = true then (some (-1)) else ((laws_heldIntS.f k ((rd_T58 x0 x5).f3) (wrap64 ((wrap64 ((wrap64 (x1 + 1)) + 1)) + 1))).bind fun t226 => (if t226 < 0 then (some (-1)) else (if (((rd_T58 x0 x5).f4) != ((Int.tmod t226 3) == 0)) = true then (some (-1)) else ((laws_heldIntS.f k ((rd_T58 x0 x5).f5) (wrap64 (t226 + 1))).bind fun t229 => (if t229 < 0 then (some (-1)) else (laws_heldRecordS.l0 k x0 t229 (wrap64 (x5 + 1))))))))) else (some (-1))) else (some (-1))) else (none)) else (some x1)
def laws_heldRecordS.f (k : Nat) (l0 : List (S58)) (a1 : Int) : Option (Int) := laws_heldRecordS.l0 k l0 a1 0
theorem laws_heldRecordS.mono_l : ∀ k, (∀ y0 y1 y2, LeO (laws_heldRecordS.l0 k y0 y1 y2) (laws_heldRecordS.l0 (k + 1) y0 y1 y2))
  | 0 => fun _ _ _ r h => by simp [laws_heldRecordS.l0] at h
  | k + 1 => by
    have ih0 := laws_heldRecordS.mono_l k
    · intro y0 y1 y2
      unfold laws_heldRecordS.l0
      repeat' first
      | (with_reducible exact ih0 _ _ _)
      | (with_reducible exact laws_heldIntS.mono _ _ _)
      | (with_reducible exact LeO.refl _)
      | (with_reducible exact LeO.none _)
      | (with_reducible refine LeO.ite ?_ ?_)
      | (with_reducible refine LeO.bind ?_ (fun _ => ?_))
      | exact ih0 _ _ _
      | exact laws_heldIntS.mono _ _ _
      | exact LeO.none _
      | refine LeO.ite ?_ ?_
      | refine LeO.bind ?_ (fun _ => ?_)
theorem laws_heldRecordS.mono : ∀ a0 a1 k, LeO (laws_heldRecordS.f k a0 a1) (laws_heldRecordS.f (k + 1) a0 a1) := by
  intro a0 a1 k
  have ih0 := laws_heldRecordS.mono_l k
  unfold laws_heldRecordS.f
  repeat' first
      | (with_reducible exact ih0 _ _ _)
      | (with_reducible exact laws_heldIntS.mono _ _ _)
      | (with_reducible exact LeO.refl _)
      | (with_reducible exact LeO.none _)
      | (with_reducible refine LeO.ite ?_ ?_)
      | (with_reducible refine LeO.bind ?_ (fun _ => ?_))
      | exact ih0 _ _ _
      | exact laws_heldIntS.mono _ _ _
      | exact LeO.none _
      | refine LeO.ite ?_ ?_
      | refine LeO.bind ?_ (fun _ => ?_)
set_option maxHeartbeats 8000000 in
set_option maxRecDepth 100000 in
theorem laws_heldRecordS.calls (k : Nat) (A0 : Option Addr) (c0 : Nat) (l0 : List (S58)) (a1 : Int) (r : Int) (w : World) (hr0 : Kd.C k58 w A0 l0.length l0) (hc0 : l0.length ≤ c0) (h : laws_heldRecordS.f k l0 a1 = some r) :
    Calls Try.prog 16 #[.slice A0 l0.length c0, .int .i64 a1] w fun e w' => e = .returned (.int .i64 r) ∧ Drawn0 w w' := by
  have HR0 := Aside0.mk hr0
  have HC0 := Aside0.mk hc0
  clear hr0 hc0
  have H : (laws_heldRecordS.l0 k l0 a1 0) = some r := h
  clear h
  have H' := Aside0.mk H
  clear H
  go_enter Try.func16, Try.ntmps16
  go_wp2
  go_loopg [1, 5] k (fun kq v1 v5 w' => ∃ (x1_1 : Int) (x5_1 : Int), v1 = .int .i64 x1_1 ∧ v5 = .int .i64 x5_1 ∧ Aside0 (laws_heldRecordS.l0 kq l0 x1_1 x5_1 = some r) ∧ Aside0 (kq ≤ k) ∧ Drawn0 w w')
  case atStart => exact ⟨(a1), (0), (by first | rfl | (simp; done) | (simp [*]; done)), (by first | rfl | (simp; done) | (simp [*]; done)), H', ⟨Nat.le_refl _⟩, by repeat (first | exact Drawn0.refl _ | apply Drawn0.step)⟩
  case round =>
    clear H'
    try clear c1
    try clear p2
    obtain ⟨x1_1, x5_1, rfl, rfl, HA, HK1, ⟨m1, rfl⟩⟩ := hrel
    cases gk with
    | zero => exact absurd HA.out (by simp [laws_heldRecordS.l0])
    | succ k1 =>
      have H := HA.out
      clear HA
      simp only [laws_heldRecordS.l0] at H
      by_cases c3 : x5_1 < (l0.length : Int)
      · rw [if_pos c3] at H
        have c3b0 : decide (x5_1 < (l0.length : Int)) = true := decide_eq_true c3
        clear c3
        by_cases c4 : 0 ≤ x5_1
        · rw [if_pos c4] at H
          have c4b0 : decide (0 ≤ x5_1) = true := decide_eq_true c4
          clear c4
          by_cases c5 : ((rd_T58 l0 x5_1).f0) = x1_1
          · rw [if_pos c5] at H
            have c5b0 : (((rd_T58 l0 x5_1).f0) == x1_1) = true := beq_iff_eq.mpr c5
            have c5b1 : (((rd_T58 l0 x5_1).f0) != x1_1) = false := bne_eq_false_iff_eq.mpr c5
            clear c5
            by_cases c6 : ((rd_T58 l0 x5_1).f1) = (wrap64 (x1_1 + 1))
            · rw [if_pos c6] at H
              have c6b0 : (((rd_T58 l0 x5_1).f1) == (wrap64 (x1_1 + 1))) = true := beq_iff_eq.mpr c6
              have c6b1 : (((rd_T58 l0 x5_1).f1) != (wrap64 (x1_1 + 1))) = false := bne_eq_false_iff_eq.mpr c6
              clear c6
              by_cases c7 : (((rd_T58 l0 x5_1).f2) != ((Int.tmod (wrap64 ((wrap64 (x1_1 + 1)) + 1)) 3) == 0)) = true
              · rw [if_pos c7] at H
                have c7b0 : (((rd_T58 l0 x5_1).f2) != ((Int.tmod (wrap64 ((wrap64 (x1_1 + 1)) + 1)) 3) == 0)) = true := c7
                (try (have c7b1 : decide (((rd_T58 l0 x5_1).f2) = ((Int.tmod (wrap64 ((wrap64 (x1_1 + 1)) + 1)) 3) == 0)) = false := by simpa using c7))
                (try (have c7b2 : (((rd_T58 l0 x5_1).f2) == ((Int.tmod (wrap64 ((wrap64 (x1_1 + 1)) + 1)) 3) == 0)) = false := by simpa using c7))
                (try (have c7b3 : ¬ (((rd_T58 l0 x5_1).f2) = ((Int.tmod (wrap64 ((wrap64 (x1_1 + 1)) + 1)) 3) == 0)) := by simpa using c7))
                clear c7
                obtain rfl := Option.some.inj H
                have p222 : 0 ≤ (x5_1 : Int) := of_decide_eq_true (by first | (with_reducible assumption) | assumption)
                have q222 : x5_1 < (l0.length : Int) := of_decide_eq_true (by first | (with_reducible assumption) | assumption)
                obtain ⟨ad222, A222_3, c222_3, A222_5, c222_5, e222, hx222_0, hx222_1, hx222_2, hx222_3, hx222_4, hx222_5, hl222_3, hi222_3, hl222_5, hi222_5⟩ := at_T58 HR0.out x5_1 p222 q222
                cases e222
                have HR222_3 := Aside0.mk hi222_3
                have HC222_3 := Aside0.mk hl222_3
                clear hi222_3 hl222_3
                have HR222_5 := Aside0.mk hi222_5
                have HC222_5 := Aside0.mk hl222_5
                clear hi222_5 hl222_5
                replace p222 := eq_true p222
                replace q222 := eq_true q222
                have p223 : 0 ≤ (x5_1 : Int) := of_decide_eq_true (by first | (with_reducible assumption) | assumption)
                have q223 : x5_1 < (l0.length : Int) := of_decide_eq_true (by first | (with_reducible assumption) | assumption)
                obtain ⟨ad223, A223_3, c223_3, A223_5, c223_5, e223, hx223_0, hx223_1, hx223_2, hx223_3, hx223_4, hx223_5, hl223_3, hi223_3, hl223_5, hi223_5⟩ := at_T58 HR0.out x5_1 p223 q223
                obtain rfl : ad222 = ad223 := (by injection e223)
                have HR223_3 := Aside0.mk hi223_3
                have HC223_3 := Aside0.mk hl223_3
                clear hi223_3 hl223_3
                have HR223_5 := Aside0.mk hi223_5
                have HC223_5 := Aside0.mk hl223_5
                clear hi223_5 hl223_5
                replace p223 := eq_true p223
                replace q223 := eq_true q223
                have ea_ := Option.some.inj (hx222_3.symm.trans hx223_3)
                injection ea_ with ea_ en_ ec_
                subst ea_
                subst ec_
                clear en_
                have ea_ := Option.some.inj (hx222_5.symm.trans hx223_5)
                injection ea_ with ea_ en_ ec_
                subst ea_
                subst ec_
                clear en_
                have p224 : 0 ≤ (x5_1 : Int) := of_decide_eq_true (by first | (with_reducible assumption) | assumption)
                have q224 : x5_1 < (l0.length : Int) := of_decide_eq_true (by first | (with_reducible assumption) | assumption)
                obtain ⟨ad224, A224_3, c224_3, A224_5, c224_5, e224, hx224_0, hx224_1, hx224_2, hx224_3, hx224_4, hx224_5, hl224_3, hi224_3, hl224_5, hi224_5⟩ := at_T58 HR0.out x5_1 p224 q224
                obtain rfl : ad222 = ad224 := (by injection e224)
                have HR224_3 := Aside0.mk hi224_3
                have HC224_3 := Aside0.mk hl224_3
                clear hi224_3 hl224_3
                have HR224_5 := Aside0.mk hi224_5
                have HC224_5 := Aside0.mk hl224_5
                clear hi224_5 hl224_5
                replace p224 := eq_true p224
                replace q224 := eq_true q224
                have ea_ := Option.some.inj (hx222_3.symm.trans hx224_3)
                injection ea_ with ea_ en_ ec_
                subst ea_
                subst ec_
                clear en_
                have ea_ := Option.some.inj (hx222_5.symm.trans hx224_5)
                injection ea_ with ea_ en_ ec_
                subst ea_
                subst ec_
                clear en_
                go_wp2
                go_ret
                exact ⟨by first | rfl | (simp; done) | (simp [*]; done), by repeat (first | exact Drawn0.refl _ | apply Drawn0.step)⟩
              · rw [if_neg c7] at H
                have c7b0 : (((rd_T58 l0 x5_1).f2) != ((Int.tmod (wrap64 ((wrap64 (x1_1 + 1)) + 1)) 3) == 0)) = false := by simpa using c7
                (try (have c7b1 : decide (((rd_T58 l0 x5_1).f2) = ((Int.tmod (wrap64 ((wrap64 (x1_1 + 1)) + 1)) 3) == 0)) = true := by simpa using c7))
                (try (have c7b2 : (((rd_T58 l0 x5_1).f2) == ((Int.tmod (wrap64 ((wrap64 (x1_1 + 1)) + 1)) 3) == 0)) = true := by simpa using c7))
                clear c7
                replace H := Option.bind_eq_some_iff.mp H
                obtain ⟨t226, A80, H⟩ := H
                replace H : (if t226 < 0 then (some (-1)) else (if (((rd_T58 l0 x5_1).f4) != ((Int.tmod t226 3) == 0)) = true then (some (-1)) else ((laws_heldIntS.f k1 ((rd_T58 l0 x5_1).f5) (wrap64 (t226 + 1))).bind fun t229 => (if t229 < 0 then (some (-1)) else (laws_heldRecordS.l0 k1 l0 t229 (wrap64 (x5_1 + 1))))))) = some r := H
                have A8 := Aside0.mk A80
                clear A80
                by_cases c9 : t226 < 0
                · rw [if_pos c9] at H
                  have c9b0 : decide (t226 < 0) = true := decide_eq_true c9
                  clear c9
                  obtain rfl := Option.some.inj H
                  have p222 : 0 ≤ (x5_1 : Int) := of_decide_eq_true (by first | (with_reducible assumption) | assumption)
                  have q222 : x5_1 < (l0.length : Int) := of_decide_eq_true (by first | (with_reducible assumption) | assumption)
                  obtain ⟨ad222, A222_3, c222_3, A222_5, c222_5, e222, hx222_0, hx222_1, hx222_2, hx222_3, hx222_4, hx222_5, hl222_3, hi222_3, hl222_5, hi222_5⟩ := at_T58 HR0.out x5_1 p222 q222
                  cases e222
                  have HR222_3 := Aside0.mk hi222_3
                  have HC222_3 := Aside0.mk hl222_3
                  clear hi222_3 hl222_3
                  have HR222_5 := Aside0.mk hi222_5
                  have HC222_5 := Aside0.mk hl222_5
                  clear hi222_5 hl222_5
                  replace p222 := eq_true p222
                  replace q222 := eq_true q222
                  have p223 : 0 ≤ (x5_1 : Int) := of_decide_eq_true (by first | (with_reducible assumption) | assumption)
                  have q223 : x5_1 < (l0.length : Int) := of_decide_eq_true (by first | (with_reducible assumption) | assumption)
                  obtain ⟨ad223, A223_3, c223_3, A223_5, c223_5, e223, hx223_0, hx223_1, hx223_2, hx223_3, hx223_4, hx223_5, hl223_3, hi223_3, hl223_5, hi223_5⟩ := at_T58 HR0.out x5_1 p223 q223
                  obtain rfl : ad222 = ad223 := (by injection e223)
                  have HR223_3 := Aside0.mk hi223_3
                  have HC223_3 := Aside0.mk hl223_3
                  clear hi223_3 hl223_3
                  have HR223_5 := Aside0.mk hi223_5
                  have HC223_5 := Aside0.mk hl223_5
                  clear hi223_5 hl223_5
                  replace p223 := eq_true p223
                  replace q223 := eq_true q223
                  have ea_ := Option.some.inj (hx222_3.symm.trans hx223_3)
                  injection ea_ with ea_ en_ ec_
                  subst ea_
                  subst ec_
                  clear en_
                  have ea_ := Option.some.inj (hx222_5.symm.trans hx223_5)
                  injection ea_ with ea_ en_ ec_
                  subst ea_
                  subst ec_
                  clear en_
                  have p224 : 0 ≤ (x5_1 : Int) := of_decide_eq_true (by first | (with_reducible assumption) | assumption)
                  have q224 : x5_1 < (l0.length : Int) := of_decide_eq_true (by first | (with_reducible assumption) | assumption)
                  obtain ⟨ad224, A224_3, c224_3, A224_5, c224_5, e224, hx224_0, hx224_1, hx224_2, hx224_3, hx224_4, hx224_5, hl224_3, hi224_3, hl224_5, hi224_5⟩ := at_T58 HR0.out x5_1 p224 q224
                  obtain rfl : ad222 = ad224 := (by injection e224)
                  have HR224_3 := Aside0.mk hi224_3
                  have HC224_3 := Aside0.mk hl224_3
                  clear hi224_3 hl224_3
                  have HR224_5 := Aside0.mk hi224_5
                  have HC224_5 := Aside0.mk hl224_5
                  clear hi224_5 hl224_5
                  replace p224 := eq_true p224
                  replace q224 := eq_true q224
                  have ea_ := Option.some.inj (hx222_3.symm.trans hx224_3)
                  injection ea_ with ea_ en_ ec_
                  subst ea_
                  subst ec_
                  clear en_
                  have ea_ := Option.some.inj (hx222_5.symm.trans hx224_5)
                  injection ea_ with ea_ en_ ec_
                  subst ea_
                  subst ec_
                  clear en_
                  have p225 : 0 ≤ (x5_1 : Int) := of_decide_eq_true (by first | (with_reducible assumption) | assumption)
                  have q225 : x5_1 < (l0.length : Int) := of_decide_eq_true (by first | (with_reducible assumption) | assumption)
                  obtain ⟨ad225, A225_3, c225_3, A225_5, c225_5, e225, hx225_0, hx225_1, hx225_2, hx225_3, hx225_4, hx225_5, hl225_3, hi225_3, hl225_5, hi225_5⟩ := at_T58 HR0.out x5_1 p225 q225
                  obtain rfl : ad222 = ad225 := (by injection e225)
                  have HR225_3 := Aside0.mk hi225_3
                  have HC225_3 := Aside0.mk hl225_3
                  clear hi225_3 hl225_3
                  have HR225_5 := Aside0.mk hi225_5
                  have HC225_5 := Aside0.mk hl225_5
                  clear hi225_5 hl225_5
                  replace p225 := eq_true p225
                  replace q225 := eq_true q225
                  have ea_ := Option.some.inj (hx222_3.symm.trans hx225_3)
                  injection ea_ with ea_ en_ ec_
                  subst ea_
                  subst ec_
                  clear en_
                  have ea_ := Option.some.inj (hx222_5.symm.trans hx225_5)
                  injection ea_ with ea_ en_ ec_
                  subst ea_
                  subst ec_
                  clear en_
                  go_wp2_with (first | ((with_reducible refine gate_callee (f := 41) rfl ?_); refine goesL_ (some 47) rfl rfl Try.func41 (by kernel_rfl) rfl #[.slice A222_3 ((rd_T58 l0 x5_1).f3).length c222_3, .int .i64 (wrap64 ((wrap64 ((wrap64 (x1_1 + 1)) + 1)) + 1))] rfl (by (try simp only [List.map_toArray, List.map_cons, List.map_nil]); first | done | rfl | (simp only [List.length_drop, List.length_take]; rfl)) ?_; (with_reducible refine (laws_heldIntS.calls k1 _ _ ((rd_T58 l0 x5_1).f3) (wrap64 ((wrap64 ((wrap64 (x1_1 + 1)) + 1)) + 1)) t226 _ ?side1 ?side2 A8.out).mono ?_); (case side1 => repeat (first | exact HR225_3.out | (with_reducible refine Kd.C_alloc ?_ _) | (with_reducible refine Kd.C_drewN ?_ _) | (with_reducible refine Kd.C_drew ?_))); (case side2 => exact HC225_3.out); rintro e w' ⟨rfl, ⟨nd, rfl⟩⟩; refine ⟨_, rfl, ?_⟩))
                  go_ret
                  exact ⟨by first | rfl | (simp; done) | (simp [*]; done), by repeat (first | exact Drawn0.refl _ | apply Drawn0.step)⟩
                · rw [if_neg c9] at H
                  have c9b0 : decide (t226 < 0) = false := decide_eq_false c9
                  clear c9
                  by_cases c10 : (((rd_T58 l0 x5_1).f4) != ((Int.tmod t226 3) == 0)) = true
                  · rw [if_pos c10] at H
                    have c10b0 : (((rd_T58 l0 x5_1).f4) != ((Int.tmod t226 3) == 0)) = true := c10
                    (try (have c10b1 : decide (((rd_T58 l0 x5_1).f4) = ((Int.tmod t226 3) == 0)) = false := by simpa using c10))
                    (try (have c10b2 : (((rd_T58 l0 x5_1).f4) == ((Int.tmod t226 3) == 0)) = false := by simpa using c10))
                    (try (have c10b3 : ¬ (((rd_T58 l0 x5_1).f4) = ((Int.tmod t226 3) == 0)) := by simpa using c10))
                    clear c10
                    obtain rfl := Option.some.inj H
                    have p222 : 0 ≤ (x5_1 : Int) := of_decide_eq_true (by first | (with_reducible assumption) | assumption)
                    have q222 : x5_1 < (l0.length : Int) := of_decide_eq_true (by first | (with_reducible assumption) | assumption)
                    obtain ⟨ad222, A222_3, c222_3, A222_5, c222_5, e222, hx222_0, hx222_1, hx222_2, hx222_3, hx222_4, hx222_5, hl222_3, hi222_3, hl222_5, hi222_5⟩ := at_T58 HR0.out x5_1 p222 q222
                    cases e222
                    have HR222_3 := Aside0.mk hi222_3
                    have HC222_3 := Aside0.mk hl222_3
                    clear hi222_3 hl222_3
                    have HR222_5 := Aside0.mk hi222_5
                    have HC222_5 := Aside0.mk hl222_5
                    clear hi222_5 hl222_5
                    replace p222 := eq_true p222
                    replace q222 := eq_true q222
                    have p223 : 0 ≤ (x5_1 : Int) := of_decide_eq_true (by first | (with_reducible assumption) | assumption)
                    have q223 : x5_1 < (l0.length : Int) := of_decide_eq_true (by first | (with_reducible assumption) | assumption)
                    obtain ⟨ad223, A223_3, c223_3, A223_5, c223_5, e223, hx223_0, hx223_1, hx223_2, hx223_3, hx223_4, hx223_5, hl223_3, hi223_3, hl223_5, hi223_5⟩ := at_T58 HR0.out x5_1 p223 q223
                    obtain rfl : ad222 = ad223 := (by injection e223)
                    have HR223_3 := Aside0.mk hi223_3
                    have HC223_3 := Aside0.mk hl223_3
                    clear hi223_3 hl223_3
                    have HR223_5 := Aside0.mk hi223_5
                    have HC223_5 := Aside0.mk hl223_5
                    clear hi223_5 hl223_5
                    replace p223 := eq_true p223
                    replace q223 := eq_true q223
                    have ea_ := Option.some.inj (hx222_3.symm.trans hx223_3)
                    injection ea_ with ea_ en_ ec_
                    subst ea_
                    subst ec_
                    clear en_
                    have ea_ := Option.some.inj (hx222_5.symm.trans hx223_5)
                    injection ea_ with ea_ en_ ec_
                    subst ea_
                    subst ec_
                    clear en_
                    have p224 : 0 ≤ (x5_1 : Int) := of_decide_eq_true (by first | (with_reducible assumption) | assumption)
                    have q224 : x5_1 < (l0.length : Int) := of_decide_eq_true (by first | (with_reducible assumption) | assumption)
                    obtain ⟨ad224, A224_3, c224_3, A224_5, c224_5, e224, hx224_0, hx224_1, hx224_2, hx224_3, hx224_4, hx224_5, hl224_3, hi224_3, hl224_5, hi224_5⟩ := at_T58 HR0.out x5_1 p224 q224
                    obtain rfl : ad222 = ad224 := (by injection e224)
                    have HR224_3 := Aside0.mk hi224_3
                    have HC224_3 := Aside0.mk hl224_3
                    clear hi224_3 hl224_3
                    have HR224_5 := Aside0.mk hi224_5
                    have HC224_5 := Aside0.mk hl224_5
                    clear hi224_5 hl224_5
                    replace p224 := eq_true p224
                    replace q224 := eq_true q224
                    have ea_ := Option.some.inj (hx222_3.symm.trans hx224_3)
                    injection ea_ with ea_ en_ ec_
                    subst ea_
                    subst ec_
                    clear en_
                    have ea_ := Option.some.inj (hx222_5.symm.trans hx224_5)
                    injection ea_ with ea_ en_ ec_
                    subst ea_
                    subst ec_
                    clear en_
                    have p225 : 0 ≤ (x5_1 : Int) := of_decide_eq_true (by first | (with_reducible assumption) | assumption)
                    have q225 : x5_1 < (l0.length : Int) := of_decide_eq_true (by first | (with_reducible assumption) | assumption)
                    obtain ⟨ad225, A225_3, c225_3, A225_5, c225_5, e225, hx225_0, hx225_1, hx225_2, hx225_3, hx225_4, hx225_5, hl225_3, hi225_3, hl225_5, hi225_5⟩ := at_T58 HR0.out x5_1 p225 q225
                    obtain rfl : ad222 = ad225 := (by injection e225)
                    have HR225_3 := Aside0.mk hi225_3
                    have HC225_3 := Aside0.mk hl225_3
                    clear hi225_3 hl225_3
                    have HR225_5 := Aside0.mk hi225_5
                    have HC225_5 := Aside0.mk hl225_5
                    clear hi225_5 hl225_5
                    replace p225 := eq_true p225
                    replace q225 := eq_true q225
                    have ea_ := Option.some.inj (hx222_3.symm.trans hx225_3)
                    injection ea_ with ea_ en_ ec_
                    subst ea_
                    subst ec_
                    clear en_
                    have ea_ := Option.some.inj (hx222_5.symm.trans hx225_5)
                    injection ea_ with ea_ en_ ec_
                    subst ea_
                    subst ec_
                    clear en_
                    go_wp2_with (first | ((with_reducible refine gate_callee (f := 41) rfl ?_); refine goesL_ (some 47) rfl rfl Try.func41 (by kernel_rfl) rfl #[.slice A222_3 ((rd_T58 l0 x5_1).f3).length c222_3, .int .i64 (wrap64 ((wrap64 ((wrap64 (x1_1 + 1)) + 1)) + 1))] rfl (by (try simp only [List.map_toArray, List.map_cons, List.map_nil]); first | done | rfl | (simp only [List.length_drop, List.length_take]; rfl)) ?_; (with_reducible refine (laws_heldIntS.calls k1 _ _ ((rd_T58 l0 x5_1).f3) (wrap64 ((wrap64 ((wrap64 (x1_1 + 1)) + 1)) + 1)) t226 _ ?side1 ?side2 A8.out).mono ?_); (case side1 => repeat (first | exact HR225_3.out | (with_reducible refine Kd.C_alloc ?_ _) | (with_reducible refine Kd.C_drewN ?_ _) | (with_reducible refine Kd.C_drew ?_))); (case side2 => exact HC225_3.out); rintro e w' ⟨rfl, ⟨nd, rfl⟩⟩; refine ⟨_, rfl, ?_⟩; have p227 : 0 ≤ (x5_1 : Int) := of_decide_eq_true (by first | (with_reducible assumption) | assumption); have q227 : x5_1 < (l0.length : Int) := of_decide_eq_true (by first | (with_reducible assumption) | assumption); obtain ⟨ad227, A227_3, c227_3, A227_5, c227_5, e227, hx227_0, hx227_1, hx227_2, hx227_3, hx227_4, hx227_5, hl227_3, hi227_3, hl227_5, hi227_5⟩ := at_T58 HR0.out x5_1 p227 q227; obtain rfl : ad222 = ad227 := (by injection e227); have HR227_3 := Aside0.mk hi227_3; have HC227_3 := Aside0.mk hl227_3; clear hi227_3 hl227_3; have HR227_5 := Aside0.mk hi227_5; have HC227_5 := Aside0.mk hl227_5; clear hi227_5 hl227_5; replace p227 := eq_true p227; replace q227 := eq_true q227; have ea_ := Option.some.inj (hx222_3.symm.trans hx227_3); injection ea_ with ea_ en_ ec_; subst ea_; subst ec_; clear en_; have ea_ := Option.some.inj (hx222_5.symm.trans hx227_5); injection ea_ with ea_ en_ ec_; subst ea_; subst ec_; clear en_))
                    go_ret
                    exact ⟨by first | rfl | (simp; done) | (simp [*]; done), by repeat (first | exact Drawn0.refl _ | apply Drawn0.step)⟩
                  · rw [if_neg c10] at H
                    have c10b0 : (((rd_T58 l0 x5_1).f4) != ((Int.tmod t226 3) == 0)) = false := by simpa using c10
                    (try (have c10b1 : decide (((rd_T58 l0 x5_1).f4) = ((Int.tmod t226 3) == 0)) = true := by simpa using c10))
                    (try (have c10b2 : (((rd_T58 l0 x5_1).f4) == ((Int.tmod t226 3) == 0)) = true := by simpa using c10))
                    clear c10
                    replace H := Option.bind_eq_some_iff.mp H
                    obtain ⟨t229, A110, H⟩ := H
                    replace H : (if t229 < 0 then (some (-1)) else (laws_heldRecordS.l0 k1 l0 t229 (wrap64 (x5_1 + 1)))) = some r := H
                    have A11 := Aside0.mk A110
                    clear A110
                    by_cases c12 : t229 < 0
                    · rw [if_pos c12] at H
                      have c12b0 : decide (t229 < 0) = true := decide_eq_true c12
                      clear c12
                      obtain rfl := Option.some.inj H
                      have p222 : 0 ≤ (x5_1 : Int) := of_decide_eq_true (by first | (with_reducible assumption) | assumption)
                      have q222 : x5_1 < (l0.length : Int) := of_decide_eq_true (by first | (with_reducible assumption) | assumption)
                      obtain ⟨ad222, A222_3, c222_3, A222_5, c222_5, e222, hx222_0, hx222_1, hx222_2, hx222_3, hx222_4, hx222_5, hl222_3, hi222_3, hl222_5, hi222_5⟩ := at_T58 HR0.out x5_1 p222 q222
                      cases e222
                      have HR222_3 := Aside0.mk hi222_3
                      have HC222_3 := Aside0.mk hl222_3
                      clear hi222_3 hl222_3
                      have HR222_5 := Aside0.mk hi222_5
                      have HC222_5 := Aside0.mk hl222_5
                      clear hi222_5 hl222_5
                      replace p222 := eq_true p222
                      replace q222 := eq_true q222
                      have p223 : 0 ≤ (x5_1 : Int) := of_decide_eq_true (by first | (with_reducible assumption) | assumption)
                      have q223 : x5_1 < (l0.length : Int) := of_decide_eq_true (by first | (with_reducible assumption) | assumption)
                      obtain ⟨ad223, A223_3, c223_3, A223_5, c223_5, e223, hx223_0, hx223_1, hx223_2, hx223_3, hx223_4, hx223_5, hl223_3, hi223_3, hl223_5, hi223_5⟩ := at_T58 HR0.out x5_1 p223 q223
                      obtain rfl : ad222 = ad223 := (by injection e223)
                      have HR223_3 := Aside0.mk hi223_3
                      have HC223_3 := Aside0.mk hl223_3
                      clear hi223_3 hl223_3
                      have HR223_5 := Aside0.mk hi223_5
                      have HC223_5 := Aside0.mk hl223_5
                      clear hi223_5 hl223_5
                      replace p223 := eq_true p223
                      replace q223 := eq_true q223
                      have ea_ := Option.some.inj (hx222_3.symm.trans hx223_3)
                      injection ea_ with ea_ en_ ec_
                      subst ea_
                      subst ec_
                      clear en_
                      have ea_ := Option.some.inj (hx222_5.symm.trans hx223_5)
                      injection ea_ with ea_ en_ ec_
                      subst ea_
                      subst ec_
                      clear en_
                      have p224 : 0 ≤ (x5_1 : Int) := of_decide_eq_true (by first | (with_reducible assumption) | assumption)
                      have q224 : x5_1 < (l0.length : Int) := of_decide_eq_true (by first | (with_reducible assumption) | assumption)
                      obtain ⟨ad224, A224_3, c224_3, A224_5, c224_5, e224, hx224_0, hx224_1, hx224_2, hx224_3, hx224_4, hx224_5, hl224_3, hi224_3, hl224_5, hi224_5⟩ := at_T58 HR0.out x5_1 p224 q224
                      obtain rfl : ad222 = ad224 := (by injection e224)
                      have HR224_3 := Aside0.mk hi224_3
                      have HC224_3 := Aside0.mk hl224_3
                      clear hi224_3 hl224_3
                      have HR224_5 := Aside0.mk hi224_5
                      have HC224_5 := Aside0.mk hl224_5
                      clear hi224_5 hl224_5
                      replace p224 := eq_true p224
                      replace q224 := eq_true q224
                      have ea_ := Option.some.inj (hx222_3.symm.trans hx224_3)
                      injection ea_ with ea_ en_ ec_
                      subst ea_
                      subst ec_
                      clear en_
                      have ea_ := Option.some.inj (hx222_5.symm.trans hx224_5)
                      injection ea_ with ea_ en_ ec_
                      subst ea_
                      subst ec_
                      clear en_
                      have p225 : 0 ≤ (x5_1 : Int) := of_decide_eq_true (by first | (with_reducible assumption) | assumption)
                      have q225 : x5_1 < (l0.length : Int) := of_decide_eq_true (by first | (with_reducible assumption) | assumption)
                      obtain ⟨ad225, A225_3, c225_3, A225_5, c225_5, e225, hx225_0, hx225_1, hx225_2, hx225_3, hx225_4, hx225_5, hl225_3, hi225_3, hl225_5, hi225_5⟩ := at_T58 HR0.out x5_1 p225 q225
                      obtain rfl : ad222 = ad225 := (by injection e225)
                      have HR225_3 := Aside0.mk hi225_3
                      have HC225_3 := Aside0.mk hl225_3
                      clear hi225_3 hl225_3
                      have HR225_5 := Aside0.mk hi225_5
                      have HC225_5 := Aside0.mk hl225_5
                      clear hi225_5 hl225_5
                      replace p225 := eq_true p225
                      replace q225 := eq_true q225
                      have ea_ := Option.some.inj (hx222_3.symm.trans hx225_3)
                      injection ea_ with ea_ en_ ec_
                      subst ea_
                      subst ec_
                      clear en_
                      have ea_ := Option.some.inj (hx222_5.symm.trans hx225_5)
                      injection ea_ with ea_ en_ ec_
                      subst ea_
                      subst ec_
                      clear en_
                      go_wp2_with (first | ((with_reducible refine gate_callee (f := 41) rfl ?_); refine goesL_ (some 47) rfl rfl Try.func41 (by kernel_rfl) rfl #[.slice A222_3 ((rd_T58 l0 x5_1).f3).length c222_3, .int .i64 (wrap64 ((wrap64 ((wrap64 (x1_1 + 1)) + 1)) + 1))] rfl (by (try simp only [List.map_toArray, List.map_cons, List.map_nil]); first | done | rfl | (simp only [List.length_drop, List.length_take]; rfl)) ?_; (with_reducible refine (laws_heldIntS.calls k1 _ _ ((rd_T58 l0 x5_1).f3) (wrap64 ((wrap64 ((wrap64 (x1_1 + 1)) + 1)) + 1)) t226 _ ?side1 ?side2 A8.out).mono ?_); (case side1 => repeat (first | exact HR225_3.out | (with_reducible refine Kd.C_alloc ?_ _) | (with_reducible refine Kd.C_drewN ?_ _) | (with_reducible refine Kd.C_drew ?_))); (case side2 => exact HC225_3.out); rintro e w' ⟨rfl, ⟨nd, rfl⟩⟩; refine ⟨_, rfl, ?_⟩; have p227 : 0 ≤ (x5_1 : Int) := of_decide_eq_true (by first | (with_reducible assumption) | assumption); have q227 : x5_1 < (l0.length : Int) := of_decide_eq_true (by first | (with_reducible assumption) | assumption); obtain ⟨ad227, A227_3, c227_3, A227_5, c227_5, e227, hx227_0, hx227_1, hx227_2, hx227_3, hx227_4, hx227_5, hl227_3, hi227_3, hl227_5, hi227_5⟩ := at_T58 HR0.out x5_1 p227 q227; obtain rfl : ad222 = ad227 := (by injection e227); have HR227_3 := Aside0.mk hi227_3; have HC227_3 := Aside0.mk hl227_3; clear hi227_3 hl227_3; have HR227_5 := Aside0.mk hi227_5; have HC227_5 := Aside0.mk hl227_5; clear hi227_5 hl227_5; replace p227 := eq_true p227; replace q227 := eq_true q227; have ea_ := Option.some.inj (hx222_3.symm.trans hx227_3); injection ea_ with ea_ en_ ec_; subst ea_; subst ec_; clear en_; have ea_ := Option.some.inj (hx222_5.symm.trans hx227_5); injection ea_ with ea_ en_ ec_; subst ea_; subst ec_; clear en_; have p228 : 0 ≤ (x5_1 : Int) := of_decide_eq_true (by first | (with_reducible assumption) | assumption); have q228 : x5_1 < (l0.length : Int) := of_decide_eq_true (by first | (with_reducible assumption) | assumption); obtain ⟨ad228, A228_3, c228_3, A228_5, c228_5, e228, hx228_0, hx228_1, hx228_2, hx228_3, hx228_4, hx228_5, hl228_3, hi228_3, hl228_5, hi228_5⟩ := at_T58 HR0.out x5_1 p228 q228; obtain rfl : ad222 = ad228 := (by injection e228); have HR228_3 := Aside0.mk hi228_3; have HC228_3 := Aside0.mk hl228_3; clear hi228_3 hl228_3; have HR228_5 := Aside0.mk hi228_5; have HC228_5 := Aside0.mk hl228_5; clear hi228_5 hl228_5; replace p228 := eq_true p228; replace q228 := eq_true q228; have ea_ := Option.some.inj (hx222_3.symm.trans hx228_3); injection ea_ with ea_ en_ ec_; subst ea_; subst ec_; clear en_; have ea_ := Option.some.inj (hx222_5.symm.trans hx228_5); injection ea_ with ea_ en_ ec_; subst ea_; subst ec_; clear en_) | ((with_reducible refine gate_callee (f := 41) rfl ?_); refine goesL_ (some 67) rfl rfl Try.func41 (by kernel_rfl) rfl #[.slice A222_5 ((rd_T58 l0 x5_1).f5).length c222_5, .int .i64 (wrap64 (t226 + 1))] rfl (by (try simp only [List.map_toArray, List.map_cons, List.map_nil]); first | done | rfl | (simp only [List.length_drop, List.length_take]; rfl)) ?_; (with_reducible refine (laws_heldIntS.calls k1 _ _ ((rd_T58 l0 x5_1).f5) (wrap64 (t226 + 1)) t229 _ ?side1 ?side2 A11.out).mono ?_); (case side1 => repeat (first | exact HR228_5.out | (with_reducible refine Kd.C_alloc ?_ _) | (with_reducible refine Kd.C_drewN ?_ _) | (with_reducible refine Kd.C_drew ?_))); (case side2 => exact HC228_5.out); rintro e w' ⟨rfl, ⟨nd, rfl⟩⟩; refine ⟨_, rfl, ?_⟩))
                      go_ret
                      exact ⟨by first | rfl | (simp; done) | (simp [*]; done), by repeat (first | exact Drawn0.refl _ | apply Drawn0.step)⟩
                    · rw [if_neg c12] at H
                      have c12b0 : decide (t229 < 0) = false := decide_eq_false c12
                      clear c12
                      have H' := Aside0.mk H
                      clear H
                      have p222 : 0 ≤ (x5_1 : Int) := of_decide_eq_true (by first | (with_reducible assumption) | assumption)
                      have q222 : x5_1 < (l0.length : Int) := of_decide_eq_true (by first | (with_reducible assumption) | assumption)
                      obtain ⟨ad222, A222_3, c222_3, A222_5, c222_5, e222, hx222_0, hx222_1, hx222_2, hx222_3, hx222_4, hx222_5, hl222_3, hi222_3, hl222_5, hi222_5⟩ := at_T58 HR0.out x5_1 p222 q222
                      cases e222
                      have HR222_3 := Aside0.mk hi222_3
                      have HC222_3 := Aside0.mk hl222_3
                      clear hi222_3 hl222_3
                      have HR222_5 := Aside0.mk hi222_5
                      have HC222_5 := Aside0.mk hl222_5
                      clear hi222_5 hl222_5
                      replace p222 := eq_true p222
                      replace q222 := eq_true q222
                      have p223 : 0 ≤ (x5_1 : Int) := of_decide_eq_true (by first | (with_reducible assumption) | assumption)
                      have q223 : x5_1 < (l0.length : Int) := of_decide_eq_true (by first | (with_reducible assumption) | assumption)
                      obtain ⟨ad223, A223_3, c223_3, A223_5, c223_5, e223, hx223_0, hx223_1, hx223_2, hx223_3, hx223_4, hx223_5, hl223_3, hi223_3, hl223_5, hi223_5⟩ := at_T58 HR0.out x5_1 p223 q223
                      obtain rfl : ad222 = ad223 := (by injection e223)
                      have HR223_3 := Aside0.mk hi223_3
                      have HC223_3 := Aside0.mk hl223_3
                      clear hi223_3 hl223_3
                      have HR223_5 := Aside0.mk hi223_5
                      have HC223_5 := Aside0.mk hl223_5
                      clear hi223_5 hl223_5
                      replace p223 := eq_true p223
                      replace q223 := eq_true q223
                      have ea_ := Option.some.inj (hx222_3.symm.trans hx223_3)
                      injection ea_ with ea_ en_ ec_
                      subst ea_
                      subst ec_
                      clear en_
                      have ea_ := Option.some.inj (hx222_5.symm.trans hx223_5)
                      injection ea_ with ea_ en_ ec_
                      subst ea_
                      subst ec_
                      clear en_
                      have p224 : 0 ≤ (x5_1 : Int) := of_decide_eq_true (by first | (with_reducible assumption) | assumption)
                      have q224 : x5_1 < (l0.length : Int) := of_decide_eq_true (by first | (with_reducible assumption) | assumption)
                      obtain ⟨ad224, A224_3, c224_3, A224_5, c224_5, e224, hx224_0, hx224_1, hx224_2, hx224_3, hx224_4, hx224_5, hl224_3, hi224_3, hl224_5, hi224_5⟩ := at_T58 HR0.out x5_1 p224 q224
                      obtain rfl : ad222 = ad224 := (by injection e224)
                      have HR224_3 := Aside0.mk hi224_3
                      have HC224_3 := Aside0.mk hl224_3
                      clear hi224_3 hl224_3
                      have HR224_5 := Aside0.mk hi224_5
                      have HC224_5 := Aside0.mk hl224_5
                      clear hi224_5 hl224_5
                      replace p224 := eq_true p224
                      replace q224 := eq_true q224
                      have ea_ := Option.some.inj (hx222_3.symm.trans hx224_3)
                      injection ea_ with ea_ en_ ec_
                      subst ea_
                      subst ec_
                      clear en_
                      have ea_ := Option.some.inj (hx222_5.symm.trans hx224_5)
                      injection ea_ with ea_ en_ ec_
                      subst ea_
                      subst ec_
                      clear en_
                      have p225 : 0 ≤ (x5_1 : Int) := of_decide_eq_true (by first | (with_reducible assumption) | assumption)
                      have q225 : x5_1 < (l0.length : Int) := of_decide_eq_true (by first | (with_reducible assumption) | assumption)
                      obtain ⟨ad225, A225_3, c225_3, A225_5, c225_5, e225, hx225_0, hx225_1, hx225_2, hx225_3, hx225_4, hx225_5, hl225_3, hi225_3, hl225_5, hi225_5⟩ := at_T58 HR0.out x5_1 p225 q225
                      obtain rfl : ad222 = ad225 := (by injection e225)
                      have HR225_3 := Aside0.mk hi225_3
                      have HC225_3 := Aside0.mk hl225_3
                      clear hi225_3 hl225_3
                      have HR225_5 := Aside0.mk hi225_5
                      have HC225_5 := Aside0.mk hl225_5
                      clear hi225_5 hl225_5
                      replace p225 := eq_true p225
                      replace q225 := eq_true q225
                      have ea_ := Option.some.inj (hx222_3.symm.trans hx225_3)
                      injection ea_ with ea_ en_ ec_
                      subst ea_
                      subst ec_
                      clear en_
                      have ea_ := Option.some.inj (hx222_5.symm.trans hx225_5)
                      injection ea_ with ea_ en_ ec_
                      subst ea_
                      subst ec_
                      clear en_
                      go_wp2_with (first | ((with_reducible refine gate_callee (f := 41) rfl ?_); refine goesL_ (some 47) rfl rfl Try.func41 (by kernel_rfl) rfl #[.slice A222_3 ((rd_T58 l0 x5_1).f3).length c222_3, .int .i64 (wrap64 ((wrap64 ((wrap64 (x1_1 + 1)) + 1)) + 1))] rfl (by (try simp only [List.map_toArray, List.map_cons, List.map_nil]); first | done | rfl | (simp only [List.length_drop, List.length_take]; rfl)) ?_; (with_reducible refine (laws_heldIntS.calls k1 _ _ ((rd_T58 l0 x5_1).f3) (wrap64 ((wrap64 ((wrap64 (x1_1 + 1)) + 1)) + 1)) t226 _ ?side1 ?side2 A8.out).mono ?_); (case side1 => repeat (first | exact HR225_3.out | (with_reducible refine Kd.C_alloc ?_ _) | (with_reducible refine Kd.C_drewN ?_ _) | (with_reducible refine Kd.C_drew ?_))); (case side2 => exact HC225_3.out); rintro e w' ⟨rfl, ⟨nd, rfl⟩⟩; refine ⟨_, rfl, ?_⟩; have p227 : 0 ≤ (x5_1 : Int) := of_decide_eq_true (by first | (with_reducible assumption) | assumption); have q227 : x5_1 < (l0.length : Int) := of_decide_eq_true (by first | (with_reducible assumption) | assumption); obtain ⟨ad227, A227_3, c227_3, A227_5, c227_5, e227, hx227_0, hx227_1, hx227_2, hx227_3, hx227_4, hx227_5, hl227_3, hi227_3, hl227_5, hi227_5⟩ := at_T58 HR0.out x5_1 p227 q227; obtain rfl : ad222 = ad227 := (by injection e227); have HR227_3 := Aside0.mk hi227_3; have HC227_3 := Aside0.mk hl227_3; clear hi227_3 hl227_3; have HR227_5 := Aside0.mk hi227_5; have HC227_5 := Aside0.mk hl227_5; clear hi227_5 hl227_5; replace p227 := eq_true p227; replace q227 := eq_true q227; have ea_ := Option.some.inj (hx222_3.symm.trans hx227_3); injection ea_ with ea_ en_ ec_; subst ea_; subst ec_; clear en_; have ea_ := Option.some.inj (hx222_5.symm.trans hx227_5); injection ea_ with ea_ en_ ec_; subst ea_; subst ec_; clear en_; have p228 : 0 ≤ (x5_1 : Int) := of_decide_eq_true (by first | (with_reducible assumption) | assumption); have q228 : x5_1 < (l0.length : Int) := of_decide_eq_true (by first | (with_reducible assumption) | assumption); obtain ⟨ad228, A228_3, c228_3, A228_5, c228_5, e228, hx228_0, hx228_1, hx228_2, hx228_3, hx228_4, hx228_5, hl228_3, hi228_3, hl228_5, hi228_5⟩ := at_T58 HR0.out x5_1 p228 q228; obtain rfl : ad222 = ad228 := (by injection e228); have HR228_3 := Aside0.mk hi228_3; have HC228_3 := Aside0.mk hl228_3; clear hi228_3 hl228_3; have HR228_5 := Aside0.mk hi228_5; have HC228_5 := Aside0.mk hl228_5; clear hi228_5 hl228_5; replace p228 := eq_true p228; replace q228 := eq_true q228; have ea_ := Option.some.inj (hx222_3.symm.trans hx228_3); injection ea_ with ea_ en_ ec_; subst ea_; subst ec_; clear en_; have ea_ := Option.some.inj (hx222_5.symm.trans hx228_5); injection ea_ with ea_ en_ ec_; subst ea_; subst ec_; clear en_) | ((with_reducible refine gate_callee (f := 41) rfl ?_); refine goesL_ (some 67) rfl rfl Try.func41 (by kernel_rfl) rfl #[.slice A222_5 ((rd_T58 l0 x5_1).f5).length c222_5, .int .i64 (wrap64 (t226 + 1))] rfl (by (try simp only [List.map_toArray, List.map_cons, List.map_nil]); first | done | rfl | (simp only [List.length_drop, List.length_take]; rfl)) ?_; (with_reducible refine (laws_heldIntS.calls k1 _ _ ((rd_T58 l0 x5_1).f5) (wrap64 (t226 + 1)) t229 _ ?side1 ?side2 A11.out).mono ?_); (case side1 => repeat (first | exact HR228_5.out | (with_reducible refine Kd.C_alloc ?_ _) | (with_reducible refine Kd.C_drewN ?_ _) | (with_reducible refine Kd.C_drew ?_))); (case side2 => exact HC228_5.out); rintro e w' ⟨rfl, ⟨nd, rfl⟩⟩; refine ⟨_, rfl, ?_⟩))
                      go_roundg k1
                      case measure => have := HK1.out; omega
                      case rel => exact ⟨(t229), (wrap64 (x5_1 + 1)), (by first | rfl | (simp; done) | (simp [*]; done)), (by first | rfl | (simp; done) | (simp [*]; done)), H', ⟨by have := HK1.out; omega⟩, by repeat (first | exact Drawn0.refl _ | apply Drawn0.step)⟩
            · rw [if_neg c6] at H
              have c6b0 : (((rd_T58 l0 x5_1).f1) == (wrap64 (x1_1 + 1))) = false := beq_eq_false_iff_ne.mpr c6
              have c6b1 : (((rd_T58 l0 x5_1).f1) != (wrap64 (x1_1 + 1))) = true := bne_iff_ne.mpr c6
              obtain rfl := Option.some.inj H
              have p222 : 0 ≤ (x5_1 : Int) := of_decide_eq_true (by first | (with_reducible assumption) | assumption)
              have q222 : x5_1 < (l0.length : Int) := of_decide_eq_true (by first | (with_reducible assumption) | assumption)
              obtain ⟨ad222, A222_3, c222_3, A222_5, c222_5, e222, hx222_0, hx222_1, hx222_2, hx222_3, hx222_4, hx222_5, hl222_3, hi222_3, hl222_5, hi222_5⟩ := at_T58 HR0.out x5_1 p222 q222
              cases e222
              have HR222_3 := Aside0.mk hi222_3
              have HC222_3 := Aside0.mk hl222_3
              clear hi222_3 hl222_3
              have HR222_5 := Aside0.mk hi222_5
              have HC222_5 := Aside0.mk hl222_5
              clear hi222_5 hl222_5
              replace p222 := eq_true p222
              replace q222 := eq_true q222
              have p223 : 0 ≤ (x5_1 : Int) := of_decide_eq_true (by first | (with_reducible assumption) | assumption)
              have q223 : x5_1 < (l0.length : Int) := of_decide_eq_true (by first | (with_reducible assumption) | assumption)
              obtain ⟨ad223, A223_3, c223_3, A223_5, c223_5, e223, hx223_0, hx223_1, hx223_2, hx223_3, hx223_4, hx223_5, hl223_3, hi223_3, hl223_5, hi223_5⟩ := at_T58 HR0.out x5_1 p223 q223
              obtain rfl : ad222 = ad223 := (by injection e223)
              have HR223_3 := Aside0.mk hi223_3
              have HC223_3 := Aside0.mk hl223_3
              clear hi223_3 hl223_3
              have HR223_5 := Aside0.mk hi223_5
              have HC223_5 := Aside0.mk hl223_5
              clear hi223_5 hl223_5
              replace p223 := eq_true p223
              replace q223 := eq_true q223
              have ea_ := Option.some.inj (hx222_3.symm.trans hx223_3)
              injection ea_ with ea_ en_ ec_
              subst ea_
              subst ec_
              clear en_
              have ea_ := Option.some.inj (hx222_5.symm.trans hx223_5)
              injection ea_ with ea_ en_ ec_
              subst ea_
              subst ec_
              clear en_
              go_wp2
              go_ret
              exact ⟨by first | rfl | (simp; done) | (simp [*]; done), by repeat (first | exact Drawn0.refl _ | apply Drawn0.step)⟩
          · rw [if_neg c5] at H
            have c5b0 : (((rd_T58 l0 x5_1).f0) == x1_1) = false := beq_eq_false_iff_ne.mpr c5
            have c5b1 : (((rd_T58 l0 x5_1).f0) != x1_1) = true := bne_iff_ne.mpr c5
            obtain rfl := Option.some.inj H
            have p222 : 0 ≤ (x5_1 : Int) := of_decide_eq_true (by first | (with_reducible assumption) | assumption)
            have q222 : x5_1 < (l0.length : Int) := of_decide_eq_true (by first | (with_reducible assumption) | assumption)
            obtain ⟨ad222, A222_3, c222_3, A222_5, c222_5, e222, hx222_0, hx222_1, hx222_2, hx222_3, hx222_4, hx222_5, hl222_3, hi222_3, hl222_5, hi222_5⟩ := at_T58 HR0.out x5_1 p222 q222
            cases e222
            have HR222_3 := Aside0.mk hi222_3
            have HC222_3 := Aside0.mk hl222_3
            clear hi222_3 hl222_3
            have HR222_5 := Aside0.mk hi222_5
            have HC222_5 := Aside0.mk hl222_5
            clear hi222_5 hl222_5
            replace p222 := eq_true p222
            replace q222 := eq_true q222
            go_wp2
            go_ret
            exact ⟨by first | rfl | (simp; done) | (simp [*]; done), by repeat (first | exact Drawn0.refl _ | apply Drawn0.step)⟩
        · rw [if_neg c4] at H
          exact absurd H (by simp)
      · rw [if_neg c3] at H
        have c3b0 : decide (x5_1 < (l0.length : Int)) = false := decide_eq_false c3
        clear c3
        obtain rfl := Option.some.inj H
        go_wp2
        go_ret
        exact ⟨by first | rfl | (simp; done) | (simp [*]; done), by repeat (first | exact Drawn0.refl _ | apply Drawn0.step)⟩

-- NOT PRINTED: function 3 (laws_FnExactRecordsMerge)

end Go.Proofs.Ytlhbclblehmdbaa.PFnExactRecordsMerge
