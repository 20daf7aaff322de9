/- Texts of the print, as texts of this claim. -/
import Derived.Test.YtlhbclblehmdbaaDoorC0
namespace Go.Proofs.YtlhbclblehmdbaaDoor.PFnExactBatchCut
open Go.RowKit Go.Proofs.YtlhbclblehmdbaaDoorW.PrintWords Go.Proofs.YtlhbclblehmdbaaDoorW.PrintLast Go.Proofs.YtlhbclblehmdbaaDoorW.PrintMore
set_option linter.unusedVariables false
set_option linter.unusedSimpArgs false

/-! ### laws_markIntS: function 45 -/
def laws_markIntS.l0 : Nat → List Int → Int → Int → Option (Int × List Int)
  | 0, _, _, _ => none
  | k + 1, x0, x1, x5 => if x5 < (x0.length : Int) then (if 0 ≤ x5 then (laws_markIntS.l0 k (x0.set (x5 : Int).toNat x1) (wrap64 (x1 + 1)) (wrap64 (x5 + 1))) else (none)) else (some (x1, x0))
def laws_markIntS.f (k : Nat) (l0 : List Int) (a1 : Int) : Option (Int × List Int) := laws_markIntS.l0 k l0 a1 0
theorem laws_markIntS.mono_l : ∀ k, (∀ y0 y1 y2, LeO (laws_markIntS.l0 k y0 y1 y2) (laws_markIntS.l0 (k + 1) y0 y1 y2))
  | 0 => fun _ _ _ r h => by simp [laws_markIntS.l0] at h
  | k + 1 => by
    have ih0 := laws_markIntS.mono_l k
    · intro y0 y1 y2
      unfold laws_markIntS.l0
      repeat' first
      | (with_reducible exact ih0 _ _ _)
      | (with_reducible exact LeO.refl _)
      | (with_reducible exact LeO.none _)
      | (with_reducible refine LeO.ite ?_ ?_)
      | (with_reducible refine LeO.bind ?_ (fun _ => ?_))
      | exact ih0 _ _ _
      | exact LeO.none _
      | refine LeO.ite ?_ ?_
      | refine LeO.bind ?_ (fun _ => ?_)
theorem laws_markIntS.mono : ∀ a0 a1 k, LeO (laws_markIntS.f k a0 a1) (laws_markIntS.f (k + 1) a0 a1) := by
  intro a0 a1 k
  have ih0 := laws_markIntS.mono_l k
  unfold laws_markIntS.f
  repeat' first
      | (with_reducible exact ih0 _ _ _)
      | (with_reducible exact LeO.refl _)
      | (with_reducible exact LeO.none _)
      | (with_reducible refine LeO.ite ?_ ?_)
      | (with_reducible refine LeO.bind ?_ (fun _ => ?_))
      | exact ih0 _ _ _
      | exact LeO.none _
      | refine LeO.ite ?_ ?_
      | refine LeO.bind ?_ (fun _ => ?_)
set_option maxHeartbeats 8000000 in
set_option maxRecDepth 100000 in
theorem laws_markIntS.calls (k : Nat) (P0_ : Nat → Prop) (u9000_ : Value) (l0 : List Int) (a1 : Int) (r1 : Int) (r2 : List Int) (w0 w : World) (hB : Below w0.heap.size w0 w) (ho0 : Kd.R (Kd.int .i64) 3 w w0.heap.size P0_ u9000_ l0) (h : laws_markIntS.f k l0 a1 = some (r1, r2)) :
    Calls Tryd.prog 45 #[u9000_, .int .i64 a1] w fun e w' => e = .returned (.int .i64 r1) ∧ Kd.R (Kd.int .i64) 3 w' w0.heap.size (fun k_ => (P0_ k_ ∨ w.heap.size ≤ k_)) u9000_ r2 ∧ Below w0.heap.size w0 w' ∧ Kept w w' (fun k_ => P0_ k_) := by
  have HO0 := Aside0.mk (show Kd.R (Kd.int .i64) 3 w w0.heap.size (fun k_ => (P0_ k_ ∨ w.heap.size ≤ k_)) u9000_ l0 from Kd.R_mono ho0 (fun k_ hk => (.inl hk)))
  have HK := Aside0.mk (Kept.refl w (fun k_ => P0_ k_))
  have HW0 := Aside0.mk hB.size
  have HB := Aside0.mk hB
  clear hB
  have H : (laws_markIntS.l0 k l0 a1 0) = some (r1, r2) := h
  clear h
  have H' := Aside0.mk H
  clear H
  go_enter Tryd.func45, Tryd.ntmps45
  go_wp2
  go_loopg [1, 5] k (fun kq v1 v5 w' => ∃ (x0_1 : List Int) (x1_1 : Int) (x5_1 : Int), v1 = .int .i64 x1_1 ∧ v5 = .int .i64 x5_1 ∧ Aside0 (laws_markIntS.l0 kq x0_1 x1_1 x5_1 = some (r1, r2)) ∧ Aside0 (kq ≤ k) ∧ Aside0 (Kd.R (Kd.int .i64) 3 w' w0.heap.size (fun k_ => (P0_ k_ ∨ w.heap.size ≤ k_)) u9000_ x0_1) ∧ Aside0 (Kept w w' (fun k_ => P0_ k_)) ∧ Aside0 (Below w0.heap.size w0 w'))
  case atStart => exact ⟨(l0), (a1), (0), rfl, rfl, H', ⟨Nat.le_refl _⟩, ⟨by (with_reducible repeat (first | apply Kd.R_alloc | apply Kd.R_drewN | apply Kd.R_drew)); exact HO0.out⟩, ⟨by repeat (first | (with_reducible first | exact HK.out | apply Kept.alloc | apply Kept.drewN | apply Kept.drew) | exact HK.out)⟩, ⟨HB.out⟩⟩
  case round =>
    clear H'
    obtain ⟨x0_1, x1_1, x5_1, rfl, rfl, HA, HK1, HO_0, HK, HB⟩ := hrel
    cases gk with
    | zero => exact absurd HA.out (by simp [laws_markIntS.l0])
    | succ k1 =>
      have H := HA.out
      clear HA
      simp only [laws_markIntS.l0] at H
      by_cases c3 : x5_1 < (x0_1.length : Int)
      · rw [if_pos c3] at H
        have c3b0 : decide (x5_1 < (x0_1.length : Int)) = true := decide_eq_true c3
        clear c3
        by_cases c4 : 0 ≤ x5_1
        · rw [if_pos c4] at H
          have c4b0 : decide (0 ≤ x5_1) = true := decide_eq_true c4
          clear c4
          obtain ⟨y266, hy266⟩ : ∃ y_ : List Int, y_ = (x0_1.set (x5_1 : Int).toNat x1_1) := ⟨_, rfl⟩
          replace H : (laws_markIntS.l0 k1 y266 (wrap64 (x1_1 + 1)) (wrap64 (x5_1 + 1))) = some (r1, r2) := by first | (rw [hy266]; with_reducible exact H) | (have H2_ := (Option.bind_some _ _).symm.trans H; rw [hy266]; with_reducible exact H2_) | (have H2_ := (Option.bind_some _ _).symm.trans H; with_reducible exact H2_) | with_reducible exact H | (rw [hy266]; exact H) | exact H
          have Ny266 := Aside0.mk hy266
          clear hy266
          have H' := Aside0.mk H
          clear H
          obtain ⟨Ao6, co6, eo6⟩ := Kd.R_slice HO_0.out
          subst eo6
          have p5 : 0 ≤ (x5_1 : Int) := of_decide_eq_true (by assumption)
          have q5 : (x5_1 : Int) < ((x0_1.length : Int) : Int) := of_decide_eq_true (by assumption)
          obtain ⟨go5, co5, eo5, gb5, gl5, cl5, HG5⟩ := Kd.R_form HO_0.out (by omega)
          (first | cases eo5 | (injection eo5 with ea_ en_ ec_; (first | subst ea_ | (injection ea_ with ea_; subst ea_)); subst ec_; clear en_))
          have GB5 := Aside0.mk gb5
          have GG5 := Aside0.mk HG5
          clear gb5 gl5 HG5
          have HMgo5 := Aside0.mk (show (P0_ go5 ∨ w.heap.size ≤ go5) from (HO_0.out.1 _ rfl))
          obtain ⟨hx5_0, hf5_0⟩ := Kd.R_celln 0 HO_0.out (x5_1 : Int) p5 q5
          replace p5 := eq_true p5
          replace q5 := eq_true q5
          have HP7 := Kd.R_putg HO_0.out (x5_1 : Int) x1_1
          go_wp2_with (first | ((with_reducible refine gate_store (t := 3) (p := 15) rfl ?_); refine store_event (t := 3) (p := 15) (v := ?vo_w8) (w1 := (wr.setCell ⟨go5, (x5_1 : Int).toNat, none⟩ (.int .i64 x1_1))) ?hg ?ho ?hn ?hr ?_; (case ho => rfl); (case hg => rfl); (case hn => rfl); (case hr => first | (go_simp; done) | (go_simp; rfl)); intro w8 hw; have hg : wr.grownBy w8 (some go5) := (by rw [hw]; exact HP7.2); have hp_ : Kd.R (Kd.int .i64) 3 w8 w0.heap.size (fun k_ => (P0_ k_ ∨ w.heap.size ≤ k_)) (.slice (some ⟨go5, 0, none⟩) x0_1.length co6) y266 := (by rw [hw, Ny266.out]; exact HP7.1); clear HP7; have n0_ := Aside0.mk (hp_); have n1_ := Aside0.mk ((by rw [hw]; exact below_set (HB.out) GB5.out : Below w0.heap.size w0 w8)); have n2_ := Aside0.mk (Kept.of_grown (S := (fun k_ => P0_ k_)) hg (by repeat (first | (with_reducible first | exact HK.out | apply Kept.alloc | apply Kept.drewN | apply Kept.drew) | exact HK.out)) (fun k_ e_ => (HO_0.out.1 k_ e_))); clear HO_0; clear HB; clear HK; have HO_0 := n0_; have HB := n1_; have HK := n2_; clear n0_ n1_ n2_; clear hg hw hp_))
          go_roundg k1
          case measure => have := HK1.out; omega
          case rel => exact ⟨(y266), (wrap64 (x1_1 + 1)), (wrap64 (x5_1 + 1)), rfl, rfl, H', ⟨by have := HK1.out; omega⟩, ⟨by (with_reducible repeat (first | apply Kd.R_alloc | apply Kd.R_drewN | apply Kd.R_drew)); exact HO_0.out⟩, ⟨by repeat (first | (with_reducible first | exact HK.out | apply Kept.alloc | apply Kept.drewN | apply Kept.drew) | exact HK.out)⟩, ⟨HB.out⟩⟩
        · rw [if_neg c4] at H
          exact absurd H (by simp)
      · rw [if_neg c3] at H
        have c3b0 : decide (x5_1 < (x0_1.length : Int)) = false := decide_eq_false c3
        clear c3
        simp only [Option.some.injEq, Prod.mk.injEq] at H
        obtain ⟨rfl, rfl⟩ := H
        obtain ⟨Ao9, co9, eo9⟩ := Kd.R_slice HO_0.out
        subst eo9
        go_wp2
        go_ret
        exact ⟨rfl, by (with_reducible repeat (first | apply Kd.R_alloc | apply Kd.R_drewN | apply Kd.R_drew)); exact HO_0.out, HB.out, by repeat (first | (with_reducible first | exact HK.out | apply Kept.alloc | apply Kept.drewN | apply Kept.drew) | exact HK.out)⟩

end Go.Proofs.YtlhbclblehmdbaaDoor.PFnExactBatchCut

namespace Go.Proofs.YtlhbclblehmdbaaDoor.PFnExactBatchCut
open Go.RowKit Go.Proofs.YtlhbclblehmdbaaDoorW.PrintWords Go.Proofs.YtlhbclblehmdbaaDoorW.PrintLast Go.Proofs.YtlhbclblehmdbaaDoorW.PrintMore
set_option linter.unusedVariables false
set_option linter.unusedSimpArgs false

/-! ### laws_heldIntS: function 46 -/
def laws_heldIntS.l0 : Nat → List Int → Int → Int → Option (Int)
  | 0, _, _, _ => none
  | k + 1, x0, x1, x5 => if x5 < (x0.length : Int) then (if 0 ≤ x5 then (if (rd x0 x5) = x1 then (laws_heldIntS.l0 k x0 (wrap64 (x1 + 1)) (wrap64 (x5 + 1))) else (some (-1))) else (none)) else (some x1)
def laws_heldIntS.f (k : Nat) (l0 : List Int) (a1 : Int) : Option (Int) := laws_heldIntS.l0 k l0 a1 0
theorem laws_heldIntS.mono_l : ∀ k, (∀ y0 y1 y2, LeO (laws_heldIntS.l0 k y0 y1 y2) (laws_heldIntS.l0 (k + 1) y0 y1 y2))
  | 0 => fun _ _ _ r h => by simp [laws_heldIntS.l0] at h
  | k + 1 => by
    have ih0 := laws_heldIntS.mono_l k
    · intro y0 y1 y2
      unfold laws_heldIntS.l0
      repeat' first
      | (with_reducible exact ih0 _ _ _)
      | (with_reducible exact LeO.refl _)
      | (with_reducible exact LeO.none _)
      | (with_reducible refine LeO.ite ?_ ?_)
      | (with_reducible refine LeO.bind ?_ (fun _ => ?_))
      | exact ih0 _ _ _
      | exact LeO.none _
      | refine LeO.ite ?_ ?_
      | refine LeO.bind ?_ (fun _ => ?_)
theorem laws_heldIntS.mono : ∀ a0 a1 k, LeO (laws_heldIntS.f k a0 a1) (laws_heldIntS.f (k + 1) a0 a1) := by
  intro a0 a1 k
  have ih0 := laws_heldIntS.mono_l k
  unfold laws_heldIntS.f
  repeat' first
      | (with_reducible exact ih0 _ _ _)
      | (with_reducible exact LeO.refl _)
      | (with_reducible exact LeO.none _)
      | (with_reducible refine LeO.ite ?_ ?_)
      | (with_reducible refine LeO.bind ?_ (fun _ => ?_))
      | exact ih0 _ _ _
      | exact LeO.none _
      | refine LeO.ite ?_ ?_
      | refine LeO.bind ?_ (fun _ => ?_)
set_option maxHeartbeats 8000000 in
set_option maxRecDepth 100000 in
theorem laws_heldIntS.calls (k : Nat) (A0 : Option Addr) (c0 : Nat) (l0 : List Int) (a1 : Int) (r : Int) (w : World) (hr0 : Kd.C (Kd.int .i64) w A0 l0.length l0) (hc0 : l0.length ≤ c0) (h : laws_heldIntS.f k l0 a1 = some r) :
    Calls Tryd.prog 46 #[.slice A0 l0.length c0, .int .i64 a1] w fun e w' => e = .returned (.int .i64 r) ∧ Drawn0 w w' := by
  have HR0 := Aside0.mk hr0
  have HC0 := Aside0.mk hc0
  clear hr0 hc0
  have H : (laws_heldIntS.l0 k l0 a1 0) = some r := h
  clear h
  have H' := Aside0.mk H
  clear H
  go_enter Tryd.func46, Tryd.ntmps46
  go_wp2
  go_loopg [1, 5] k (fun kq v1 v5 w' => ∃ (x1_1 : Int) (x5_1 : Int), v1 = .int .i64 x1_1 ∧ v5 = .int .i64 x5_1 ∧ Aside0 (laws_heldIntS.l0 kq l0 x1_1 x5_1 = some r) ∧ Aside0 (kq ≤ k) ∧ Drawn0 w w')
  case atStart => exact ⟨(a1), (0), rfl, rfl, H', ⟨Nat.le_refl _⟩, by repeat (first | exact Drawn0.refl _ | apply Drawn0.step)⟩
  case round =>
    clear H'
    obtain ⟨x1_1, x5_1, rfl, rfl, HA, HK1, ⟨m1, rfl⟩⟩ := hrel
    cases gk with
    | zero => exact absurd HA.out (by simp [laws_heldIntS.l0])
    | succ k1 =>
      have H := HA.out
      clear HA
      simp only [laws_heldIntS.l0] at H
      by_cases c3 : x5_1 < (l0.length : Int)
      · rw [if_pos c3] at H
        have c3b0 : decide (x5_1 < (l0.length : Int)) = true := decide_eq_true c3
        clear c3
        by_cases c4 : 0 ≤ x5_1
        · rw [if_pos c4] at H
          have c4b0 : decide (0 ≤ x5_1) = true := decide_eq_true c4
          clear c4
          by_cases c5 : (rd l0 x5_1) = x1_1
          · rw [if_pos c5] at H
            have c5b0 : ((rd l0 x5_1) == x1_1) = true := beq_iff_eq.mpr c5
            have c5b1 : ((rd l0 x5_1) != x1_1) = false := bne_eq_false_iff_eq.mpr c5
            clear c5
            have H' := Aside0.mk H
            clear H
            have p268 : 0 ≤ (x5_1 : Int) := of_decide_eq_true (by assumption)
            have q268 : x5_1 < (l0.length : Int) := of_decide_eq_true (by assumption)
            obtain ⟨ad268, e268, hx268_0⟩ := Kd.at_int HR0.out x5_1 p268 q268
            cases e268
            replace p268 := eq_true p268
            replace q268 := eq_true q268
            go_wp2
            go_roundg k1
            case measure => have := HK1.out; omega
            case rel => exact ⟨(wrap64 (x1_1 + 1)), (wrap64 (x5_1 + 1)), rfl, rfl, H', ⟨by have := HK1.out; omega⟩, by repeat (first | exact Drawn0.refl _ | apply Drawn0.step)⟩
          · rw [if_neg c5] at H
            have c5b0 : ((rd l0 x5_1) == x1_1) = false := beq_eq_false_iff_ne.mpr c5
            have c5b1 : ((rd l0 x5_1) != x1_1) = true := bne_iff_ne.mpr c5
            obtain rfl := Option.some.inj H
            have p268 : 0 ≤ (x5_1 : Int) := of_decide_eq_true (by assumption)
            have q268 : x5_1 < (l0.length : Int) := of_decide_eq_true (by assumption)
            obtain ⟨ad268, e268, hx268_0⟩ := Kd.at_int HR0.out x5_1 p268 q268
            cases e268
            replace p268 := eq_true p268
            replace q268 := eq_true q268
            go_wp2
            go_ret
            exact ⟨by first | rfl | (simp; done) | (simp [*]; done), by repeat (first | exact Drawn0.refl _ | apply Drawn0.step)⟩
        · rw [if_neg c4] at H
          exact absurd H (by simp)
      · rw [if_neg c3] at H
        have c3b0 : decide (x5_1 < (l0.length : Int)) = false := decide_eq_false c3
        clear c3
        obtain rfl := Option.some.inj H
        go_wp2
        go_ret
        exact ⟨by first | rfl | (simp; done) | (simp [*]; done), by repeat (first | exact Drawn0.refl _ | apply Drawn0.step)⟩

end Go.Proofs.YtlhbclblehmdbaaDoor.PFnExactBatchCut

namespace Go.Proofs.YtlhbclblehmdbaaDoor.PFnExactBatchCut
open Go.RowKit Go.Proofs.YtlhbclblehmdbaaDoorW.PrintWords Go.Proofs.YtlhbclblehmdbaaDoorW.PrintLast Go.Proofs.YtlhbclblehmdbaaDoorW.PrintMore
set_option linter.unusedVariables false
set_option linter.unusedSimpArgs false

/-! ### laws_heldRecordS: function 26 -/
def laws_heldRecordS.l0 : Nat → List (S41) → Int → Int → Option (Int)
  | 0, _, _, _ => none
  | k + 1, x0, x1, x5 => if x5 < (x0.length : Int) then (if 0 ≤ x5 then (if ((rd_T41 x0 x5).f0) = x1 then (if ((rd_T41 x0 x5).f1) = (wrap64 (x1 + 1)) then (if (((rd_T41 x0 x5).f2) != ((Int.tmod (wrap64 ((wrap64 (x1 + 1)) + 1)) 3) == 0)) = true then (some (-1)) else ((laws_heldIntS.f k ((rd_T41 x0 x5).f3) (wrap64 ((wrap64 ((wrap64 (x1 + 1)) + 1)) + 1))).bind fun t273 => (if t273 < 0 then (some (-1)) else (if (((rd_T41 x0 x5).f4) != ((Int.tmod t273 3) == 0)) = true then (some (-1)) else ((laws_heldIntS.f k ((rd_T41 x0 x5).f5) (wrap64 (t273 + 1))).bind fun t276 => (if t276 < 0 then (some (-1)) else (laws_heldRecordS.l0 k x0 t276 (wrap64 (x5 + 1))))))))) else (some (-1))) else (some (-1))) else (none)) else (some x1)
def laws_heldRecordS.f (k : Nat) (l0 : List (S41)) (a1 : Int) : Option (Int) := laws_heldRecordS.l0 k l0 a1 0
theorem laws_heldRecordS.mono_l : ∀ k, (∀ y0 y1 y2, LeO (laws_heldRecordS.l0 k y0 y1 y2) (laws_heldRecordS.l0 (k + 1) y0 y1 y2))
  | 0 => fun _ _ _ r h => by simp [laws_heldRecordS.l0] at h
  | k + 1 => by
    have ih0 := laws_heldRecordS.mono_l k
    · intro y0 y1 y2
      unfold laws_heldRecordS.l0
      repeat' first
      | (with_reducible exact ih0 _ _ _)
      | (with_reducible exact laws_heldIntS.mono _ _ _)
      | (with_reducible exact LeO.refl _)
      | (with_reducible exact LeO.none _)
      | (with_reducible refine LeO.ite ?_ ?_)
      | (with_reducible refine LeO.bind ?_ (fun _ => ?_))
      | exact ih0 _ _ _
      | exact laws_heldIntS.mono _ _ _
      | exact LeO.none _
      | refine LeO.ite ?_ ?_
      | refine LeO.bind ?_ (fun _ => ?_)
theorem laws_heldRecordS.mono : ∀ a0 a1 k, LeO (laws_heldRecordS.f k a0 a1) (laws_heldRecordS.f (k + 1) a0 a1) := by
  intro a0 a1 k
  have ih0 := laws_heldRecordS.mono_l k
  unfold laws_heldRecordS.f
  repeat' first
      | (with_reducible exact ih0 _ _ _)
      | (with_reducible exact laws_heldIntS.mono _ _ _)
      | (with_reducible exact LeO.refl _)
      | (with_reducible exact LeO.none _)
      | (with_reducible refine LeO.ite ?_ ?_)
      | (with_reducible refine LeO.bind ?_ (fun _ => ?_))
      | exact ih0 _ _ _
      | exact laws_heldIntS.mono _ _ _
      | exact LeO.none _
      | refine LeO.ite ?_ ?_
      | refine LeO.bind ?_ (fun _ => ?_)
set_option maxHeartbeats 8000000 in
set_option maxRecDepth 100000 in
theorem laws_heldRecordS.calls (k : Nat) (A0 : Option Addr) (c0 : Nat) (l0 : List (S41)) (a1 : Int) (r : Int) (w : World) (hr0 : Kd.C k41 w A0 l0.length l0) (hc0 : l0.length ≤ c0) (h : laws_heldRecordS.f k l0 a1 = some r) :
    Calls Tryd.prog 26 #[.slice A0 l0.length c0, .int .i64 a1] w fun e w' => e = .returned (.int .i64 r) ∧ Drawn0 w w' := by
  have HR0 := Aside0.mk hr0
  have HC0 := Aside0.mk hc0
  clear hr0 hc0
  have H : (laws_heldRecordS.l0 k l0 a1 0) = some r := h
  clear h
  have H' := Aside0.mk H
  clear H
  go_enter Tryd.func26, Tryd.ntmps26
  go_wp2
  go_loopg [1, 5] k (fun kq v1 v5 w' => ∃ (x1_1 : Int) (x5_1 : Int), v1 = .int .i64 x1_1 ∧ v5 = .int .i64 x5_1 ∧ Aside0 (laws_heldRecordS.l0 kq l0 x1_1 x5_1 = some r) ∧ Aside0 (kq ≤ k) ∧ Drawn0 w w')
  case atStart => exact ⟨(a1), (0), rfl, rfl, H', ⟨Nat.le_refl _⟩, by repeat (first | exact Drawn0.refl _ | apply Drawn0.step)⟩
  case round =>
    clear H'
    obtain ⟨x1_1, x5_1, rfl, rfl, HA, HK1, ⟨m1, rfl⟩⟩ := hrel
    cases gk with
    | zero => exact absurd HA.out (by simp [laws_heldRecordS.l0])
    | succ k1 =>
      have H := HA.out
      clear HA
      simp only [laws_heldRecordS.l0] at H
      by_cases c3 : x5_1 < (l0.length : Int)
      · rw [if_pos c3] at H
        have c3b0 : decide (x5_1 < (l0.length : Int)) = true := decide_eq_true c3
        clear c3
        by_cases c4 : 0 ≤ x5_1
        · rw [if_pos c4] at H
          have c4b0 : decide (0 ≤ x5_1) = true := decide_eq_true c4
          clear c4
          by_cases c5 : ((rd_T41 l0 x5_1).f0) = x1_1
          · rw [if_pos c5] at H
            have c5b0 : (((rd_T41 l0 x5_1).f0) == x1_1) = true := beq_iff_eq.mpr c5
            have c5b1 : (((rd_T41 l0 x5_1).f0) != x1_1) = false := bne_eq_false_iff_eq.mpr c5
            clear c5
            by_cases c6 : ((rd_T41 l0 x5_1).f1) = (wrap64 (x1_1 + 1))
            · rw [if_pos c6] at H
              have c6b0 : (((rd_T41 l0 x5_1).f1) == (wrap64 (x1_1 + 1))) = true := beq_iff_eq.mpr c6
              have c6b1 : (((rd_T41 l0 x5_1).f1) != (wrap64 (x1_1 + 1))) = false := bne_eq_false_iff_eq.mpr c6
              clear c6
              by_cases c7 : (((rd_T41 l0 x5_1).f2) != ((Int.tmod (wrap64 ((wrap64 (x1_1 + 1)) + 1)) 3) == 0)) = true
              · rw [if_pos c7] at H
                have c7b0 : (((rd_T41 l0 x5_1).f2) != ((Int.tmod (wrap64 ((wrap64 (x1_1 + 1)) + 1)) 3) == 0)) = true := c7
                (try (have c7b1 : decide (((rd_T41 l0 x5_1).f2) = ((Int.tmod (wrap64 ((wrap64 (x1_1 + 1)) + 1)) 3) == 0)) = false := by simpa using c7))
                (try (have c7b2 : (((rd_T41 l0 x5_1).f2) == ((Int.tmod (wrap64 ((wrap64 (x1_1 + 1)) + 1)) 3) == 0)) = false := by simpa using c7))
                (try (have c7b3 : ¬ (((rd_T41 l0 x5_1).f2) = ((Int.tmod (wrap64 ((wrap64 (x1_1 + 1)) + 1)) 3) == 0)) := by simpa using c7))
                clear c7
                obtain rfl := Option.some.inj H
                have p269 : 0 ≤ (x5_1 : Int) := of_decide_eq_true (by assumption)
                have q269 : x5_1 < (l0.length : Int) := of_decide_eq_true (by assumption)
                obtain ⟨ad269, A269_3, c269_3, A269_5, c269_5, e269, hx269_0, hx269_1, hx269_2, hx269_3, hx269_4, hx269_5, hl269_3, hi269_3, hl269_5, hi269_5⟩ := at_T41 HR0.out x5_1 p269 q269
                cases e269
                have HR269_3 := Aside0.mk hi269_3
                have HC269_3 := Aside0.mk hl269_3
                clear hi269_3 hl269_3
                have HR269_5 := Aside0.mk hi269_5
                have HC269_5 := Aside0.mk hl269_5
                clear hi269_5 hl269_5
                replace p269 := eq_true p269
                replace q269 := eq_true q269
                have p270 : 0 ≤ (x5_1 : Int) := of_decide_eq_true (by assumption)
                have q270 : x5_1 < (l0.length : Int) := of_decide_eq_true (by assumption)
                obtain ⟨ad270, A270_3, c270_3, A270_5, c270_5, e270, hx270_0, hx270_1, hx270_2, hx270_3, hx270_4, hx270_5, hl270_3, hi270_3, hl270_5, hi270_5⟩ := at_T41 HR0.out x5_1 p270 q270
                obtain rfl : ad269 = ad270 := (by injection e270)
                have HR270_3 := Aside0.mk hi270_3
                have HC270_3 := Aside0.mk hl270_3
                clear hi270_3 hl270_3
                have HR270_5 := Aside0.mk hi270_5
                have HC270_5 := Aside0.mk hl270_5
                clear hi270_5 hl270_5
                replace p270 := eq_true p270
                replace q270 := eq_true q270
                have ea_ := Option.some.inj (hx269_3.symm.trans hx270_3)
                injection ea_ with ea_ en_ ec_
                subst ea_
                subst ec_
                clear en_
                have ea_ := Option.some.inj (hx269_5.symm.trans hx270_5)
                injection ea_ with ea_ en_ ec_
                subst ea_
                subst ec_
                clear en_
                have p271 : 0 ≤ (x5_1 : Int) := of_decide_eq_true (by assumption)
                have q271 : x5_1 < (l0.length : Int) := of_decide_eq_true (by assumption)
                obtain ⟨ad271, A271_3, c271_3, A271_5, c271_5, e271, hx271_0, hx271_1, hx271_2, hx271_3, hx271_4, hx271_5, hl271_3, hi271_3, hl271_5, hi271_5⟩ := at_T41 HR0.out x5_1 p271 q271
                obtain rfl : ad269 = ad271 := (by injection e271)
                have HR271_3 := Aside0.mk hi271_3
                have HC271_3 := Aside0.mk hl271_3
                clear hi271_3 hl271_3
                have HR271_5 := Aside0.mk hi271_5
                have HC271_5 := Aside0.mk hl271_5
                clear hi271_5 hl271_5
                replace p271 := eq_true p271
                replace q271 := eq_true q271
                have ea_ := Option.some.inj (hx269_3.symm.trans hx271_3)
                injection ea_ with ea_ en_ ec_
                subst ea_
                subst ec_
                clear en_
                have ea_ := Option.some.inj (hx269_5.symm.trans hx271_5)
                injection ea_ with ea_ en_ ec_
                subst ea_
                subst ec_
                clear en_
                go_wp2
                go_ret
                exact ⟨by first | rfl | (simp; done) | (simp [*]; done), by repeat (first | exact Drawn0.refl _ | apply Drawn0.step)⟩
              · rw [if_neg c7] at H
                have c7b0 : (((rd_T41 l0 x5_1).f2) != ((Int.tmod (wrap64 ((wrap64 (x1_1 + 1)) + 1)) 3) == 0)) = false := by simpa using c7
                (try (have c7b1 : decide (((rd_T41 l0 x5_1).f2) = ((Int.tmod (wrap64 ((wrap64 (x1_1 + 1)) + 1)) 3) == 0)) = true := by simpa using c7))
                (try (have c7b2 : (((rd_T41 l0 x5_1).f2) == ((Int.tmod (wrap64 ((wrap64 (x1_1 + 1)) + 1)) 3) == 0)) = true := by simpa using c7))
                clear c7
                replace H := Option.bind_eq_some_iff.mp H
                obtain ⟨t273, A80, H⟩ := H
                replace H : (if t273 < 0 then (some (-1)) else (if (((rd_T41 l0 x5_1).f4) != ((Int.tmod t273 3) == 0)) = true then (some (-1)) else ((laws_heldIntS.f k1 ((rd_T41 l0 x5_1).f5) (wrap64 (t273 + 1))).bind fun t276 => (if t276 < 0 then (some (-1)) else (laws_heldRecordS.l0 k1 l0 t276 (wrap64 (x5_1 + 1))))))) = some r := H
                have A8 := Aside0.mk A80
                clear A80
                by_cases c9 : t273 < 0
                · rw [if_pos c9] at H
                  have c9b0 : decide (t273 < 0) = true := decide_eq_true c9
                  clear c9
                  obtain rfl := Option.some.inj H
                  have p269 : 0 ≤ (x5_1 : Int) := of_decide_eq_true (by assumption)
                  have q269 : x5_1 < (l0.length : Int) := of_decide_eq_true (by assumption)
                  obtain ⟨ad269, A269_3, c269_3, A269_5, c269_5, e269, hx269_0, hx269_1, hx269_2, hx269_3, hx269_4, hx269_5, hl269_3, hi269_3, hl269_5, hi269_5⟩ := at_T41 HR0.out x5_1 p269 q269
                  cases e269
                  have HR269_3 := Aside0.mk hi269_3
                  have HC269_3 := Aside0.mk hl269_3
                  clear hi269_3 hl269_3
                  have HR269_5 := Aside0.mk hi269_5
                  have HC269_5 := Aside0.mk hl269_5
                  clear hi269_5 hl269_5
                  replace p269 := eq_true p269
                  replace q269 := eq_true q269
                  have p270 : 0 ≤ (x5_1 : Int) := of_decide_eq_true (by assumption)
                  have q270 : x5_1 < (l0.length : Int) := of_decide_eq_true (by assumption)
                  obtain ⟨ad270, A270_3, c270_3, A270_5, c270_5, e270, hx270_0, hx270_1, hx270_2, hx270_3, hx270_4, hx270_5, hl270_3, hi270_3, hl270_5, hi270_5⟩ := at_T41 HR0.out x5_1 p270 q270
                  obtain rfl : ad269 = ad270 := (by injection e270)
                  have HR270_3 := Aside0.mk hi270_3
                  have HC270_3 := Aside0.mk hl270_3
                  clear hi270_3 hl270_3
                  have HR270_5 := Aside0.mk hi270_5
                  have HC270_5 := Aside0.mk hl270_5
                  clear hi270_5 hl270_5
                  replace p270 := eq_true p270
                  replace q270 := eq_true q270
                  have ea_ := Option.some.inj (hx269_3.symm.trans hx270_3)
                  injection ea_ with ea_ en_ ec_
                  subst ea_
                  subst ec_
                  clear en_
                  have ea_ := Option.some.inj (hx269_5.symm.trans hx270_5)
                  injection ea_ with ea_ en_ ec_
                  subst ea_
                  subst ec_
                  clear en_
                  have p271 : 0 ≤ (x5_1 : Int) := of_decide_eq_true (by assumption)
                  have q271 : x5_1 < (l0.length : Int) := of_decide_eq_true (by assumption)
                  obtain ⟨ad271, A271_3, c271_3, A271_5, c271_5, e271, hx271_0, hx271_1, hx271_2, hx271_3, hx271_4, hx271_5, hl271_3, hi271_3, hl271_5, hi271_5⟩ := at_T41 HR0.out x5_1 p271 q271
                  obtain rfl : ad269 = ad271 := (by injection e271)
                  have HR271_3 := Aside0.mk hi271_3
                  have HC271_3 := Aside0.mk hl271_3
                  clear hi271_3 hl271_3
                  have HR271_5 := Aside0.mk hi271_5
                  have HC271_5 := Aside0.mk hl271_5
                  clear hi271_5 hl271_5
                  replace p271 := eq_true p271
                  replace q271 := eq_true q271
                  have ea_ := Option.some.inj (hx269_3.symm.trans hx271_3)
                  injection ea_ with ea_ en_ ec_
                  subst ea_
                  subst ec_
                  clear en_
                  have ea_ := Option.some.inj (hx269_5.symm.trans hx271_5)
                  injection ea_ with ea_ en_ ec_
                  subst ea_
                  subst ec_
                  clear en_
                  have p272 : 0 ≤ (x5_1 : Int) := of_decide_eq_true (by assumption)
                  have q272 : x5_1 < (l0.length : Int) := of_decide_eq_true (by assumption)
                  obtain ⟨ad272, A272_3, c272_3, A272_5, c272_5, e272, hx272_0, hx272_1, hx272_2, hx272_3, hx272_4, hx272_5, hl272_3, hi272_3, hl272_5, hi272_5⟩ := at_T41 HR0.out x5_1 p272 q272
                  obtain rfl : ad269 = ad272 := (by injection e272)
                  have HR272_3 := Aside0.mk hi272_3
                  have HC272_3 := Aside0.mk hl272_3
                  clear hi272_3 hl272_3
                  have HR272_5 := Aside0.mk hi272_5
                  have HC272_5 := Aside0.mk hl272_5
                  clear hi272_5 hl272_5
                  replace p272 := eq_true p272
                  replace q272 := eq_true q272
                  have ea_ := Option.some.inj (hx269_3.symm.trans hx272_3)
                  injection ea_ with ea_ en_ ec_
                  subst ea_
                  subst ec_
                  clear en_
                  have ea_ := Option.some.inj (hx269_5.symm.trans hx272_5)
                  injection ea_ with ea_ en_ ec_
                  subst ea_
                  subst ec_
                  clear en_
                  go_wp2_with (first | ((with_reducible refine gate_callee (f := 46) rfl ?_); refine goesL_ (some 47) rfl rfl Tryd.func46 (by kernel_rfl) rfl #[.slice A269_3 ((rd_T41 l0 x5_1).f3).length c269_3, .int .i64 (wrap64 ((wrap64 ((wrap64 (x1_1 + 1)) + 1)) + 1))] rfl (by (try simp only [List.map_toArray, List.map_cons, List.map_nil]); first | done | rfl | (simp only [List.length_drop, List.length_take]; rfl)) ?_; (with_reducible refine (laws_heldIntS.calls k1 _ _ ((rd_T41 l0 x5_1).f3) (wrap64 ((wrap64 ((wrap64 (x1_1 + 1)) + 1)) + 1)) t273 _ ?side1 ?side2 A8.out).mono ?_); (case side1 => repeat (first | exact HR272_3.out | (with_reducible refine Kd.C_alloc ?_ _) | (with_reducible refine Kd.C_drewN ?_ _) | (with_reducible refine Kd.C_drew ?_))); (case side2 => exact HC272_3.out); rintro e w' ⟨rfl, ⟨nd, rfl⟩⟩; refine ⟨_, rfl, ?_⟩))
                  go_ret
                  exact ⟨by first | rfl | (simp; done) | (simp [*]; done), by repeat (first | exact Drawn0.refl _ | apply Drawn0.step)⟩
                · rw [if_neg c9] at H
                  have c9b0 : decide (t273 < 0) = false := decide_eq_false c9
                  clear c9
                  by_cases c10 : (((rd_T41 l0 x5_1).f4) != ((Int.tmod t273 3) == 0)) = true
                  · rw [if_pos c10] at H
                    have c10b0 : (((rd_T41 l0 x5_1).f4) != ((Int.tmod t273 3) == 0)) = true := c10
                    (try (have c10b1 : decide (((rd_T41 l0 x5_1).f4) = ((Int.tmod t273 3) == 0)) = false := by simpa using c10))
                    (try (have c10b2 : (((rd_T41 l0 x5_1).f4) == ((Int.tmod t273 3) == 0)) = false := by simpa using c10))
                    (try (have c10b3 : ¬ (((rd_T41 l0 x5_1).f4) = ((Int.tmod t273 3) == 0)) := by simpa using c10))
                    clear c10
                    obtain rfl := Option.some.inj H
                    have p269 : 0 ≤ (x5_1 : Int) := of_decide_eq_true (by assumption)
                    have q269 : x5_1 < (l0.length : Int) := of_decide_eq_true (by assumption)
                    obtain ⟨ad269, A269_3, c269_3, A269_5, c269_5, e269, hx269_0, hx269_1, hx269_2, hx269_3, hx269_4, hx269_5, hl269_3, hi269_3, hl269_5, hi269_5⟩ := at_T41 HR0.out x5_1 p269 q269
                    cases e269
                    have HR269_3 := Aside0.mk hi269_3
                    have HC269_3 := Aside0.mk hl269_3
                    clear hi269_3 hl269_3
                    have HR269_5 := Aside0.mk hi269_5
                    have HC269_5 := Aside0.mk hl269_5
                    clear hi269_5 hl269_5
                    replace p269 := eq_true p269
                    replace q269 := eq_true q269
                    have p270 : 0 ≤ (x5_1 : Int) := of_decide_eq_true (by assumption)
                    have q270 : x5_1 < (l0.length : Int) := of_decide_eq_true (by assumption)
                    obtain ⟨ad270, A270_3, c270_3, A270_5, c270_5, e270, hx270_0, hx270_1, hx270_2, hx270_3, hx270_4, hx270_5, hl270_3, hi270_3, hl270_5, hi270_5⟩ := at_T41 HR0.out x5_1 p270 q270
                    obtain rfl : ad269 = ad270 := (by injection e270)
                    have HR270_3 := Aside0.mk hi270_3
                    have HC270_3 := Aside0.mk hl270_3
                    clear hi270_3 hl270_3
                    have HR270_5 := Aside0.mk hi270_5
                    have HC270_5 := Aside0.mk hl270_5
                    clear hi270_5 hl270_5
                    replace p270 := eq_true p270
                    replace q270 := eq_true q270
                    have ea_ := Option.some.inj (hx269_3.symm.trans hx270_3)
                    injection ea_ with ea_ en_ ec_
                    subst ea_
                    subst ec_
                    clear en_
                    have ea_ := Option.some.inj (hx269_5.symm.trans hx270_5)
                    injection ea_ with ea_ en_ ec_
                    subst ea_
                    subst ec_
                    clear en_
                    have p271 : 0 ≤ (x5_1 : Int) := of_decide_eq_true (by assumption)
                    have q271 : x5_1 < (l0.length : Int) := of_decide_eq_true (by assumption)
                    obtain ⟨ad271, A271_3, c271_3, A271_5, c271_5, e271, hx271_0, hx271_1, hx271_2, hx271_3, hx271_4, hx271_5, hl271_3, hi271_3, hl271_5, hi271_5⟩ := at_T41 HR0.out x5_1 p271 q271
                    obtain rfl : ad269 = ad271 := (by injection e271)
                    have HR271_3 := Aside0.mk hi271_3
                    have HC271_3 := Aside0.mk hl271_3
                    clear hi271_3 hl271_3
                    have HR271_5 := Aside0.mk hi271_5
                    have HC271_5 := Aside0.mk hl271_5
                    clear hi271_5 hl271_5
                    replace p271 := eq_true p271
                    replace q271 := eq_true q271
                    have ea_ := Option.some.inj (hx269_3.symm.trans hx271_3)
                    injection ea_ with ea_ en_ ec_
                    subst ea_
                    subst ec_
                    clear en_
                    have ea_ := Option.some.inj (hx269_5.symm.trans hx271_5)
                    injection ea_ with ea_ en_ ec_
                    subst ea_
                    subst ec_
                    clear en_
                    have p272 : 0 ≤ (x5_1 : Int) := of_decide_eq_true (by assumption)
                    have q272 : x5_1 < (l0.length : Int) := of_decide_eq_true (by assumption)
                    obtain ⟨ad272, A272_3, c272_3, A272_5, c272_5, e272, hx272_0, hx272_1, hx272_2, hx272_3, hx272_4, hx272_5, hl272_3, hi272_3, hl272_5, hi272_5⟩ := at_T41 HR0.out x5_1 p272 q272
                    obtain rfl : ad269 = ad272 := (by injection e272)
                    have HR272_3 := Aside0.mk hi272_3
                    have HC272_3 := Aside0.mk hl272_3
                    clear hi272_3 hl272_3
                    have HR272_5 := Aside0.mk hi272_5
                    have HC272_5 := Aside0.mk hl272_5
                    clear hi272_5 hl272_5
                    replace p272 := eq_true p272
                    replace q272 := eq_true q272
                    have ea_ := Option.some.inj (hx269_3.symm.trans hx272_3)
                    injection ea_ with ea_ en_ ec_
                    subst ea_
                    subst ec_
                    clear en_
                    have ea_ := Option.some.inj (hx269_5.symm.trans hx272_5)
                    injection ea_ with ea_ en_ ec_
                    subst ea_
                    subst ec_
                    clear en_
                    go_wp2_with (first | ((with_reducible refine gate_callee (f := 46) rfl ?_); refine goesL_ (some 47) rfl rfl Tryd.func46 (by kernel_rfl) rfl #[.slice A269_3 ((rd_T41 l0 x5_1).f3).length c269_3, .int .i64 (wrap64 ((wrap64 ((wrap64 (x1_1 + 1)) + 1)) + 1))] rfl (by (try simp only [List.map_toArray, List.map_cons, List.map_nil]); first | done | rfl | (simp only [List.length_drop, List.length_take]; rfl)) ?_; (with_reducible refine (laws_heldIntS.calls k1 _ _ ((rd_T41 l0 x5_1).f3) (wrap64 ((wrap64 ((wrap64 (x1_1 + 1)) + 1)) + 1)) t273 _ ?side1 ?side2 A8.out).mono ?_); (case side1 => repeat (first | exact HR272_3.out | (with_reducible refine Kd.C_alloc ?_ _) | (with_reducible refine Kd.C_drewN ?_ _) | (with_reducible refine Kd.C_drew ?_))); (case side2 => exact HC272_3.out); rintro e w' ⟨rfl, ⟨nd, rfl⟩⟩; refine ⟨_, rfl, ?_⟩; have p274 : 0 ≤ (x5_1 : Int) := of_decide_eq_true (by assumption); have q274 : x5_1 < (l0.length : Int) := of_decide_eq_true (by assumption); obtain ⟨ad274, A274_3, c274_3, A274_5, c274_5, e274, hx274_0, hx274_1, hx274_2, hx274_3, hx274_4, hx274_5, hl274_3, hi274_3, hl274_5, hi274_5⟩ := at_T41 HR0.out x5_1 p274 q274; obtain rfl : ad269 = ad274 := (by injection e274); have HR274_3 := Aside0.mk hi274_3; have HC274_3 := Aside0.mk hl274_3; clear hi274_3 hl274_3; have HR274_5 := Aside0.mk hi274_5; have HC274_5 := Aside0.mk hl274_5; clear hi274_5 hl274_5; replace p274 := eq_true p274; replace q274 := eq_true q274; have ea_ := Option.some.inj (hx269_3.symm.trans hx274_3); injection ea_ with ea_ en_ ec_; subst ea_; subst ec_; clear en_; have ea_ := Option.some.inj (hx269_5.symm.trans hx274_5); injection ea_ with ea_ en_ ec_; subst ea_; subst ec_; clear en_))
                    go_ret
                    exact ⟨by first | rfl | (simp; done) | (simp [*]; done), by repeat (first | exact Drawn0.refl _ | apply Drawn0.step)⟩
                  · rw [if_neg c10] at H
                    have c10b0 : (((rd_T41 l0 x5_1).f4) != ((Int.tmod t273 3) == 0)) = false := by simpa using c10
                    (try (have c10b1 : decide (((rd_T41 l0 x5_1).f4) = ((Int.tmod t273 3) == 0)) = true := by simpa using c10))
                    (try (have c10b2 : (((rd_T41 l0 x5_1).f4) == ((Int.tmod t273 3) == 0)) = true := by simpa using c10))
                    clear c10
                    replace H := Option.bind_eq_some_iff.mp H
                    obtain ⟨t276, A110, H⟩ := H
                    replace H : (if t276 < 0 then (some (-1)) else (laws_heldRecordS.l0 k1 l0 t276 (wrap64 (x5_1 + 1)))) = some r := H
                    have A11 := Aside0.mk A110
                    clear A110
                    by_cases c12 : t276 < 0
                    · rw [if_pos c12] at H
                      have c12b0 : decide (t276 < 0) = true := decide_eq_true c12
                      clear c12
                      obtain rfl := Option.some.inj H
                      have p269 : 0 ≤ (x5_1 : Int) := of_decide_eq_true (by assumption)
                      have q269 : x5_1 < (l0.length : Int) := of_decide_eq_true (by assumption)
                      obtain ⟨ad269, A269_3, c269_3, A269_5, c269_5, e269, hx269_0, hx269_1, hx269_2, hx269_3, hx269_4, hx269_5, hl269_3, hi269_3, hl269_5, hi269_5⟩ := at_T41 HR0.out x5_1 p269 q269
                      cases e269
                      have HR269_3 := Aside0.mk hi269_3
                      have HC269_3 := Aside0.mk hl269_3
                      clear hi269_3 hl269_3
                      have HR269_5 := Aside0.mk hi269_5
                      have HC269_5 := Aside0.mk hl269_5
                      clear hi269_5 hl269_5
                      replace p269 := eq_true p269
                      replace q269 := eq_true q269
                      have p270 : 0 ≤ (x5_1 : Int) := of_decide_eq_true (by assumption)
                      have q270 : x5_1 < (l0.length : Int) := of_decide_eq_true (by assumption)
                      obtain ⟨ad270, A270_3, c270_3, A270_5, c270_5, e270, hx270_0, hx270_1, hx270_2, hx270_3, hx270_4, hx270_5, hl270_3, hi270_3, hl270_5, hi270_5⟩ := at_T41 HR0.out x5_1 p270 q270
                      obtain rfl : ad269 = ad270 := (by injection e270)
                      have HR270_3 := Aside0.mk hi270_3
                      have HC270_3 := Aside0.mk hl270_3
                      clear hi270_3 hl270_3
                      have HR270_5 := Aside0.mk hi270_5
                      have HC270_5 := Aside0.mk hl270_5
                      clear hi270_5 hl270_5
                      replace p270 := eq_true p270
                      replace q270 := eq_true q270
                      have ea_ := Option.some.inj (hx269_3.symm.trans hx270_3)
                      injection ea_ with ea_ en_ ec_
                      subst ea_
                      subst ec_
                      clear en_
                      have ea_ := Option.some.inj (hx269_5.symm.trans hx270_5)
                      injection ea_ with ea_ en_ ec_
                      subst ea_
                      subst ec_
                      clear en_
                      have p271 : 0 ≤ (x5_1 : Int) := of_decide_eq_true (by assumption)
                      have q271 : x5_1 < (l0.length : Int) := of_decide_eq_true (by assumption)
                      obtain ⟨ad271, A271_3, c271_3, A271_5, c271_5, e271, hx271_0, hx271_1, hx271_2, hx271_3, hx271_4, hx271_5, hl271_3, hi271_3, hl271_5, hi271_5⟩ := at_T41 HR0.out x5_1 p271 q271
                      obtain rfl : ad269 = ad271 := (by injection e271)
                      have HR271_3 := Aside0.mk hi271_3
                      have HC271_3 := Aside0.mk hl271_3
                      clear hi271_3 hl271_3
                      have HR271_5 := Aside0.mk hi271_5
                      have HC271_5 := Aside0.mk hl271_5
                      clear hi271_5 hl271_5
                      replace p271 := eq_true p271
                      replace q271 := eq_true q271
                      have ea_ := Option.some.inj (hx269_3.symm.trans hx271_3)
                      injection ea_ with ea_ en_ ec_
                      subst ea_
                      subst ec_
                      clear en_
                      have ea_ := Option.some.inj (hx269_5.symm.trans hx271_5)
                      injection ea_ with ea_ en_ ec_
                      subst ea_
                      subst ec_
                      clear en_
                      have p272 : 0 ≤ (x5_1 : Int) := of_decide_eq_true (by assumption)
                      have q272 : x5_1 < (l0.length : Int) := of_decide_eq_true (by assumption)
                      obtain ⟨ad272, A272_3, c272_3, A272_5, c272_5, e272, hx272_0, hx272_1, hx272_2, hx272_3, hx272_4, hx272_5, hl272_3, hi272_3, hl272_5, hi272_5⟩ := at_T41 HR0.out x5_1 p272 q272
                      obtain rfl : ad269 = ad272 := (by injection e272)
                      have HR272_3 := Aside0.mk hi272_3
                      have HC272_3 := Aside0.mk hl272_3
                      clear hi272_3 hl272_3
                      have HR272_5 := Aside0.mk hi272_5
                      have HC272_5 := Aside0.mk hl272_5
                      clear hi272_5 hl272_5
                      replace p272 := eq_true p272
                      replace q272 := eq_true q272
                      have ea_ := Option.some.inj (hx269_3.symm.trans hx272_3)
                      injection ea_ with ea_ en_ ec_
                      subst ea_
                      subst ec_
                      clear en_
                      have ea_ := Option.some.inj (hx269_5.symm.trans hx272_5)
                      injection ea_ with ea_ en_ ec_
                      subst ea_
                      subst ec_
                      clear en_
                      go_wp2_with (first | ((with_reducible refine gate_callee (f := 46) rfl ?_); refine goesL_ (some 47) rfl rfl Tryd.func46 (by kernel_rfl) rfl #[.slice A269_3 ((rd_T41 l0 x5_1).f3).length c269_3, .int .i64 (wrap64 ((wrap64 ((wrap64 (x1_1 + 1)) + 1)) + 1))] rfl (by (try simp only [List.map_toArray, List.map_cons, List.map_nil]); first | done | rfl | (simp only [List.length_drop, List.length_take]; rfl)) ?_; (with_reducible refine (laws_heldIntS.calls k1 _ _ ((rd_T41 l0 x5_1).f3) (wrap64 ((wrap64 ((wrap64 (x1_1 + 1)) + 1)) + 1)) t273 _ ?side1 ?side2 A8.out).mono ?_); (case side1 => repeat (first | exact HR272_3.out | (with_reducible refine Kd.C_alloc ?_ _) | (with_reducible refine Kd.C_drewN ?_ _) | (with_reducible refine Kd.C_drew ?_))); (case side2 => exact HC272_3.out); rintro e w' ⟨rfl, ⟨nd, rfl⟩⟩; refine ⟨_, rfl, ?_⟩; have p274 : 0 ≤ (x5_1 : Int) := of_decide_eq_true (by assumption); have q274 : x5_1 < (l0.length : Int) := of_decide_eq_true (by assumption); obtain ⟨ad274, A274_3, c274_3, A274_5, c274_5, e274, hx274_0, hx274_1, hx274_2, hx274_3, hx274_4, hx274_5, hl274_3, hi274_3, hl274_5, hi274_5⟩ := at_T41 HR0.out x5_1 p274 q274; obtain rfl : ad269 = ad274 := (by injection e274); have HR274_3 := Aside0.mk hi274_3; have HC274_3 := Aside0.mk hl274_3; clear hi274_3 hl274_3; have HR274_5 := Aside0.mk hi274_5; have HC274_5 := Aside0.mk hl274_5; clear hi274_5 hl274_5; replace p274 := eq_true p274; replace q274 := eq_true q274; have ea_ := Option.some.inj (hx269_3.symm.trans hx274_3); injection ea_ with ea_ en_ ec_; subst ea_; subst ec_; clear en_; have ea_ := Option.some.inj (hx269_5.symm.trans hx274_5); injection ea_ with ea_ en_ ec_; subst ea_; subst ec_; clear en_; have p275 : 0 ≤ (x5_1 : Int) := of_decide_eq_true (by assumption); have q275 : x5_1 < (l0.length : Int) := of_decide_eq_true (by assumption); obtain ⟨ad275, A275_3, c275_3, A275_5, c275_5, e275, hx275_0, hx275_1, hx275_2, hx275_3, hx275_4, hx275_5, hl275_3, hi275_3, hl275_5, hi275_5⟩ := at_T41 HR0.out x5_1 p275 q275; obtain rfl : ad269 = ad275 := (by injection e275); have HR275_3 := Aside0.mk hi275_3; have HC275_3 := Aside0.mk hl275_3; clear hi275_3 hl275_3; have HR275_5 := Aside0.mk hi275_5; have HC275_5 := Aside0.mk hl275_5; clear hi275_5 hl275_5; replace p275 := eq_true p275; replace q275 := eq_true q275; have ea_ := Option.some.inj (hx269_3.symm.trans hx275_3); injection ea_ with ea_ en_ ec_; subst ea_; subst ec_; clear en_; have ea_ := Option.some.inj (hx269_5.symm.trans hx275_5); injection ea_ with ea_ en_ ec_; subst ea_; subst ec_; clear en_) | ((with_reducible refine gate_callee (f := 46) rfl ?_); refine goesL_ (some 67) rfl rfl Tryd.func46 (by kernel_rfl) rfl #[.slice A269_5 ((rd_T41 l0 x5_1).f5).length c269_5, .int .i64 (wrap64 (t273 + 1))] rfl (by (try simp only [List.map_toArray, List.map_cons, List.map_nil]); first | done | rfl | (simp only [List.length_drop, List.length_take]; rfl)) ?_; (with_reducible refine (laws_heldIntS.calls k1 _ _ ((rd_T41 l0 x5_1).f5) (wrap64 (t273 + 1)) t276 _ ?side1 ?side2 A11.out).mono ?_); (case side1 => repeat (first | exact HR275_5.out | (with_reducible refine Kd.C_alloc ?_ _) | (with_reducible refine Kd.C_drewN ?_ _) | (with_reducible refine Kd.C_drew ?_))); (case side2 => exact HC275_5.out); rintro e w' ⟨rfl, ⟨nd, rfl⟩⟩; refine ⟨_, rfl, ?_⟩))
                      go_ret
                      exact ⟨by first | rfl | (simp; done) | (simp [*]; done), by repeat (first | exact Drawn0.refl _ | apply Drawn0.step)⟩
                    · rw [if_neg c12] at H
                      have c12b0 : decide (t276 < 0) = false := decide_eq_false c12
                      clear c12
                      have H' := Aside0.mk H
                      clear H
                      have p269 : 0 ≤ (x5_1 : Int) := of_decide_eq_true (by assumption)
                      have q269 : x5_1 < (l0.length : Int) := of_decide_eq_true (by assumption)
                      obtain ⟨ad269, A269_3, c269_3, A269_5, c269_5, e269, hx269_0, hx269_1, hx269_2, hx269_3, hx269_4, hx269_5, hl269_3, hi269_3, hl269_5, hi269_5⟩ := at_T41 HR0.out x5_1 p269 q269
                      cases e269
                      have HR269_3 := Aside0.mk hi269_3
                      have HC269_3 := Aside0.mk hl269_3
                      clear hi269_3 hl269_3
                      have HR269_5 := Aside0.mk hi269_5
                      have HC269_5 := Aside0.mk hl269_5
                      clear hi269_5 hl269_5
                      replace p269 := eq_true p269
                      replace q269 := eq_true q269
                      have p270 : 0 ≤ (x5_1 : Int) := of_decide_eq_true (by assumption)
                      have q270 : x5_1 < (l0.length : Int) := of_decide_eq_true (by assumption)
                      obtain ⟨ad270, A270_3, c270_3, A270_5, c270_5, e270, hx270_0, hx270_1, hx270_2, hx270_3, hx270_4, hx270_5, hl270_3, hi270_3, hl270_5, hi270_5⟩ := at_T41 HR0.out x5_1 p270 q270
                      obtain rfl : ad269 = ad270 := (by injection e270)
                      have HR270_3 := Aside0.mk hi270_3
                      have HC270_3 := Aside0.mk hl270_3
                      clear hi270_3 hl270_3
                      have HR270_5 := Aside0.mk hi270_5
                      have HC270_5 := Aside0.mk hl270_5
                      clear hi270_5 hl270_5
                      replace p270 := eq_true p270
                      replace q270 := eq_true q270
                      have ea_ := Option.some.inj (hx269_3.symm.trans hx270_3)
                      injection ea_ with ea_ en_ ec_
                      subst ea_
                      subst ec_
                      clear en_
                      have ea_ := Option.some.inj (hx269_5.symm.trans hx270_5)
                      injection ea_ with ea_ en_ ec_
                      subst ea_
                      subst ec_
                      clear en_
                      have p271 : 0 ≤ (x5_1 : Int) := of_decide_eq_true (by assumption)
                      have q271 : x5_1 < (l0.length : Int) := of_decide_eq_true (by assumption)
                      obtain ⟨ad271, A271_3, c271_3, A271_5, c271_5, e271, hx271_0, hx271_1, hx271_2, hx271_3, hx271_4, hx271_5, hl271_3, hi271_3, hl271_5, hi271_5⟩ := at_T41 HR0.out x5_1 p271 q271
                      obtain rfl : ad269 = ad271 := (by injection e271)
                      have HR271_3 := Aside0.mk hi271_3
                      have HC271_3 := Aside0.mk hl271_3
                      clear hi271_3 hl271_3
                      have HR271_5 := Aside0.mk hi271_5
                      have HC271_5 := Aside0.mk hl271_5
                      clear hi271_5 hl271_5
                      replace p271 := eq_true p271
                      replace q271 := eq_true q271
                      have ea_ := Option.some.inj (hx269_3.symm.trans hx271_3)
                      injection ea_ with ea_ en_ ec_
                      subst ea_
                      subst ec_
                      clear en_
                      have ea_ := Option.some.inj (hx269_5.symm.trans hx271_5)
                      injection ea_ with ea_ en_ ec_
                      subst ea_
                      subst ec_
                      clear en_
                      have p272 : 0 ≤ (x5_1 : Int) := of_decide_eq_true (by assumption)
                      have q272 : x5_1 < (l0.length : Int) := of_decide_eq_true (by assumption)
                      obtain ⟨ad272, A272_3, c272_3, A272_5, c272_5, e272, hx272_0, hx272_1, hx272_2, hx272_3, hx272_4, hx272_5, hl272_3, hi272_3, hl272_5, hi272_5⟩ := at_T41 HR0.out x5_1 p272 q272
                      obtain rfl : ad269 = ad272 := (by injection e272)
                      have HR272_3 := Aside0.mk hi272_3
                      have HC272_3 := Aside0.mk hl272_3
                      clear hi272_3 hl272_3
                      have HR272_5 := Aside0.mk hi272_5
                      have HC272_5 := Aside0.mk hl272_5
                      clear hi272_5 hl272_5
                      replace p272 := eq_true p272
                      replace q272 := eq_true q272
                      have ea_ := Option.some.inj (hx269_3.symm.trans hx272_3)
                      injection ea_ with ea_ en_ ec_
                      subst ea_
                      subst ec_
                      clear en_
                      have ea_ := Option.some.inj (hx269_5.symm.trans hx272_5)
                      injection ea_ with ea_ en_ ec_
                      subst ea_
                      subst ec_
                      clear en_
                      go_wp2_with (first | ((with_reducible refine gate_callee (f := 46) rfl ?_); refine goesL_ (some 47) rfl rfl Tryd.func46 (by kernel_rfl) rfl #[.slice A269_3 ((rd_T41 l0 x5_1).f3).length c269_3, .int .i64 (wrap64 ((wrap64 ((wrap64 (x1_1 + 1)) + 1)) + 1))] rfl (by (try simp only [List.map_toArray, List.map_cons, List.map_nil]); first | done | rfl | (simp only [List.length_drop, List.length_take]; rfl)) ?_; (with_reducible refine (laws_heldIntS.calls k1 _ _ ((rd_T41 l0 x5_1).f3) (wrap64 ((wrap64 ((wrap64 (x1_1 + 1)) + 1)) + 1)) t273 _ ?side1 ?side2 A8.out).mono ?_); (case side1 => repeat (first | exact HR272_3.out | (with_reducible refine Kd.C_alloc ?_ _) | (with_reducible refine Kd.C_drewN ?_ _) | (with_reducible refine Kd.C_drew ?_))); (case side2 => exact HC272_3.out); rintro e w' ⟨rfl, ⟨nd, rfl⟩⟩; refine ⟨_, rfl, ?_⟩; have p274 : 0 ≤ (x5_1 : Int) := of_decide_eq_true (by assumption); have q274 : x5_1 < (l0.length : Int) := of_decide_eq_true (by assumption); obtain ⟨ad274, A274_3, c274_3, A274_5, c274_5, e274, hx274_0, hx274_1, hx274_2, hx274_3, hx274_4, hx274_5, hl274_3, hi274_3, hl274_5, hi274_5⟩ := at_T41 HR0.out x5_1 p274 q274; obtain rfl : ad269 = ad274 := (by injection e274); have HR274_3 := Aside0.mk hi274_3; have HC274_3 := Aside0.mk hl274_3; clear hi274_3 hl274_3; have HR274_5 := Aside0.mk hi274_5; have HC274_5 := Aside0.mk hl274_5; clear hi274_5 hl274_5; replace p274 := eq_true p274; replace q274 := eq_true q274; have ea_ := Option.some.inj (hx269_3.symm.trans hx274_3); injection ea_ with ea_ en_ ec_; subst ea_; subst ec_; clear en_; have ea_ := Option.some.inj (hx269_5.symm.trans hx274_5); injection ea_ with ea_ en_ ec_; subst ea_; subst ec_; clear en_; have p275 : 0 ≤ (x5_1 : Int) := of_decide_eq_true (by assumption); have q275 : x5_1 < (l0.length : Int) := of_decide_eq_true (by assumption); obtain ⟨ad275, A275_3, c275_3, A275_5, c275_5, e275, hx275_0, hx275_1, hx275_2, hx275_3, hx275_4, hx275_5, hl275_3, hi275_3, hl275_5, hi275_5⟩ := at_T41 HR0.out x5_1 p275 q275; obtain rfl : ad269 = ad275 := (by injection e275); have HR275_3 := Aside0.mk hi275_3; have HC275_3 := Aside0.mk hl275_3; clear hi275_3 hl275_3; have HR275_5 := Aside0.mk hi275_5; have HC275_5 := Aside0.mk hl275_5; clear hi275_5 hl275_5; replace p275 := eq_true p275; replace q275 := eq_true q275; have ea_ := Option.some.inj (hx269_3.symm.trans hx275_3); injection ea_ with ea_ en_ ec_; subst ea_; subst ec_; clear en_; have ea_ := Option.some.inj (hx269_5.symm.trans hx275_5); injection ea_ with ea_ en_ ec_; subst ea_; subst ec_; clear en_) | ((with_reducible refine gate_callee (f := 46) rfl ?_); refine goesL_ (some 67) rfl rfl Tryd.func46 (by kernel_rfl) rfl #[.slice A269_5 ((rd_T41 l0 x5_1).f5).length c269_5, .int .i64 (wrap64 (t273 + 1))] rfl (by (try simp only [List.map_toArray, List.map_cons, List.map_nil]); first | done | rfl | (simp only [List.length_drop, List.length_take]; rfl)) ?_; (with_reducible refine (laws_heldIntS.calls k1 _ _ ((rd_T41 l0 x5_1).f5) (wrap64 (t273 + 1)) t276 _ ?side1 ?side2 A11.out).mono ?_); (case side1 => repeat (first | exact HR275_5.out | (with_reducible refine Kd.C_alloc ?_ _) | (with_reducible refine Kd.C_drewN ?_ _) | (with_reducible refine Kd.C_drew ?_))); (case side2 => exact HC275_5.out); rintro e w' ⟨rfl, ⟨nd, rfl⟩⟩; refine ⟨_, rfl, ?_⟩))
                      go_roundg k1
                      case measure => have := HK1.out; omega
                      case rel => exact ⟨(t276), (wrap64 (x5_1 + 1)), rfl, rfl, H', ⟨by have := HK1.out; omega⟩, by repeat (first | exact Drawn0.refl _ | apply Drawn0.step)⟩
            · rw [if_neg c6] at H
              have c6b0 : (((rd_T41 l0 x5_1).f1) == (wrap64 (x1_1 + 1))) = false := beq_eq_false_iff_ne.mpr c6
              have c6b1 : (((rd_T41 l0 x5_1).f1) != (wrap64 (x1_1 + 1))) = true := bne_iff_ne.mpr c6
              obtain rfl := Option.some.inj H
              have p269 : 0 ≤ (x5_1 : Int) := of_decide_eq_true (by assumption)
              have q269 : x5_1 < (l0.length : Int) := of_decide_eq_true (by assumption)
              obtain ⟨ad269, A269_3, c269_3, A269_5, c269_5, e269, hx269_0, hx269_1, hx269_2, hx269_3, hx269_4, hx269_5, hl269_3, hi269_3, hl269_5, hi269_5⟩ := at_T41 HR0.out x5_1 p269 q269
              cases e269
              have HR269_3 := Aside0.mk hi269_3
              have HC269_3 := Aside0.mk hl269_3
              clear hi269_3 hl269_3
              have HR269_5 := Aside0.mk hi269_5
              have HC269_5 := Aside0.mk hl269_5
              clear hi269_5 hl269_5
              replace p269 := eq_true p269
              replace q269 := eq_true q269
              have p270 : 0 ≤ (x5_1 : Int) := of_decide_eq_true (by assumption)
              have q270 : x5_1 < (l0.length : Int) := of_decide_eq_true (by assumption)
              obtain ⟨ad270, A270_3, c270_3, A270_5, c270_5, e270, hx270_0, hx270_1, hx270_2, hx270_3, hx270_4, hx270_5, hl270_3, hi270_3, hl270_5, hi270_5⟩ := at_T41 HR0.out x5_1 p270 q270
              obtain rfl : ad269 = ad270 := (by injection e270)
              have HR270_3 := Aside0.mk hi270_3
              have HC270_3 := Aside0.mk hl270_3
              clear hi270_3 hl270_3
              have HR270_5 := Aside0.mk hi270_5
              have HC270_5 := Aside0.mk hl270_5
              clear hi270_5 hl270_5
              replace p270 := eq_true p270
              replace q270 := eq_true q270
              have ea_ := Option.some.inj (hx269_3.symm.trans hx270_3)
              injection ea_ with ea_ en_ ec_
              subst ea_
              subst ec_
              clear en_
              have ea_ := Option.some.inj (hx269_5.symm.trans hx270_5)
              injection ea_ with ea_ en_ ec_
              subst ea_
              subst ec_
              clear en_
              go_wp2
              go_ret
              exact ⟨by first | rfl | (simp; done) | (simp [*]; done), by repeat (first | exact Drawn0.refl _ | apply Drawn0.step)⟩
          · rw [if_neg c5] at H
            have c5b0 : (((rd_T41 l0 x5_1).f0) == x1_1) = false := beq_eq_false_iff_ne.mpr c5
            have c5b1 : (((rd_T41 l0 x5_1).f0) != x1_1) = true := bne_iff_ne.mpr c5
            obtain rfl := Option.some.inj H
            have p269 : 0 ≤ (x5_1 : Int) := of_decide_eq_true (by assumption)
            have q269 : x5_1 < (l0.length : Int) := of_decide_eq_true (by assumption)
            obtain ⟨ad269, A269_3, c269_3, A269_5, c269_5, e269, hx269_0, hx269_1, hx269_2, hx269_3, hx269_4, hx269_5, hl269_3, hi269_3, hl269_5, hi269_5⟩ := at_T41 HR0.out x5_1 p269 q269
            cases e269
            have HR269_3 := Aside0.mk hi269_3
            have HC269_3 := Aside0.mk hl269_3
            clear hi269_3 hl269_3
            have HR269_5 := Aside0.mk hi269_5
            have HC269_5 := Aside0.mk hl269_5
            clear hi269_5 hl269_5
            replace p269 := eq_true p269
            replace q269 := eq_true q269
            go_wp2
            go_ret
            exact ⟨by first | rfl | (simp; done) | (simp [*]; done), by repeat (first | exact Drawn0.refl _ | apply Drawn0.step)⟩
        · rw [if_neg c4] at H
          exact absurd H (by simp)
      · rw [if_neg c3] at H
        have c3b0 : decide (x5_1 < (l0.length : Int)) = false := decide_eq_false c3
        clear c3
        obtain rfl := Option.some.inj H
        go_wp2
        go_ret
        exact ⟨by first | rfl | (simp; done) | (simp [*]; done), by repeat (first | exact Drawn0.refl _ | apply Drawn0.step)⟩

end Go.Proofs.YtlhbclblehmdbaaDoor.PFnExactBatchCut

namespace Go.Proofs.YtlhbclblehmdbaaDoor.PFnExactBatchCut
open Go.RowKit Go.Proofs.YtlhbclblehmdbaaDoorW.PrintWords Go.Proofs.YtlhbclblehmdbaaDoorW.PrintLast Go.Proofs.YtlhbclblehmdbaaDoorW.PrintMore
set_option linter.unusedVariables false
set_option linter.unusedSimpArgs false

/-! ### laws_heldBatch: function 12 -/
def laws_heldBatch.f (k : Nat) (a0_0 : Bool) (a0_1 : Bool) (a0_2 : Int) (a0_3 : Int) (a0_4 : Int) (l0_5 : List (S41)) (a1 : Int) : Option (Int) := (laws_heldRecordS.f k l0_5 a1).bind fun t278 => (if t278 < 0 then (some (-1)) else (some t278))
theorem laws_heldBatch.mono : ∀ a0 a1 a2 a3 a4 a5 a6 k, LeO (laws_heldBatch.f k a0 a1 a2 a3 a4 a5 a6) (laws_heldBatch.f (k + 1) a0 a1 a2 a3 a4 a5 a6) := by
  intro a0 a1 a2 a3 a4 a5 a6 k
  unfold laws_heldBatch.f
  repeat' first
      | (with_reducible exact laws_heldRecordS.mono _ _ _)
      | (with_reducible exact LeO.refl _)
      | (with_reducible exact LeO.none _)
      | (with_reducible refine LeO.ite ?_ ?_)
      | (with_reducible refine LeO.bind ?_ (fun _ => ?_))
      | exact laws_heldRecordS.mono _ _ _
      | exact LeO.none _
      | refine LeO.ite ?_ ?_
      | refine LeO.bind ?_ (fun _ => ?_)
set_option maxHeartbeats 8000000 in
set_option maxRecDepth 100000 in
theorem laws_heldBatch.calls (k : Nat) (a0_0 : Bool) (a0_1 : Bool) (a0_2 : Int) (a0_3 : Int) (a0_4 : Int) (A0_5 : Option Addr) (c0_5 : Nat) (l0_5 : List (S41)) (a1 : Int) (r : Int) (w : World) (hr0_5 : Kd.C k41 w A0_5 l0_5.length l0_5) (hc0_5 : l0_5.length ≤ c0_5) (h : laws_heldBatch.f k a0_0 a0_1 a0_2 a0_3 a0_4 l0_5 a1 = some r) :
    Calls Tryd.prog 12 #[.agg #[.bool a0_0, .bool a0_1, .int .i64 a0_2, .int .i64 a0_3, .int .i64 a0_4, .slice A0_5 l0_5.length c0_5], .int .i64 a1] w fun e w' => e = .returned (.int .i64 r) ∧ Below w.heap.size w w' := by
  have hu28 := Tryd.underlying28
  have HR0_5 := Aside0.mk hr0_5
  have HC0_5 := Aside0.mk hc0_5
  clear hr0_5 hc0_5
  have HB := Aside0.mk (Below.refl w.heap.size w)
  have H : ((laws_heldRecordS.f k l0_5 a1).bind fun t278 => (if t278 < 0 then (some (-1)) else (some t278))) = some r := h
  clear h
  replace H := Option.bind_eq_some_iff.mp H
  obtain ⟨t278, A30, H⟩ := H
  replace H : (if t278 < 0 then (some (-1)) else (some t278)) = some r := H
  have A3 := Aside0.mk A30
  clear A30
  by_cases c4 : t278 < 0
  · rw [if_pos c4] at H
    have c4b0 : decide (t278 < 0) = true := decide_eq_true c4
    clear c4
    obtain rfl := Option.some.inj H
    go_enter Tryd.func12, Tryd.ntmps12
    go_wp2_with (first | ((with_reducible refine gate_dst (N := 2) rfl ?_); refine box_event ?hg (N := 2) ?hd (cs := #[.bool a0_0, .bool a0_1, .int .i64 a0_2, .int .i64 a0_3, .int .i64 a0_4, .slice A0_5 l0_5.length c0_5]) (t := 28) ?hr ?_; (case hd => rfl); (case hg => rfl); (case hr => first | (go_simp; done) | (go_simp; rfl)); intro gb277 hg w5 hbox hb; have n0_ := Aside0.mk (below_step HB.out hb); have n1_ := Aside0.mk (hbox); have n2_ := Aside0.mk ((by rw [hg]; exact (below_size HB.out) : w.heap.size ≤ gb277)); have n3_ := Aside0.mk ((by rw [hg]; exact (below_size HB.out) : w.heap.size ≤ gb277)); clear HB; have HB := n0_; have BK277 := n1_; have GW277 := n2_; have GE277 := n3_; clear n0_ n1_ n2_ n3_; clear hb hbox hg; have hcz6_0 : w5.cell? ⟨gb277, 0, none⟩ = some (.bool a0_0) := blk_cell BK277.out 0; have hcz6_1 : w5.cell? ⟨gb277, 1, none⟩ = some (.bool a0_1) := blk_cell BK277.out 1; have hcz6_2 : w5.cell? ⟨gb277, 2, none⟩ = some (.int .i64 a0_2) := blk_cell BK277.out 2; have hcz6_3 : w5.cell? ⟨gb277, 3, none⟩ = some (.int .i64 a0_3) := blk_cell BK277.out 3; have hcz6_4 : w5.cell? ⟨gb277, 4, none⟩ = some (.int .i64 a0_4) := blk_cell BK277.out 4; have hcz6_5 : w5.cell? ⟨gb277, 5, none⟩ = some (.slice A0_5 l0_5.length c0_5) := blk_cell BK277.out 5; have hfz6_0 := blk_frozen BK277.out 0; have hfz6_1 := blk_frozen BK277.out 1; have hfz6_2 := blk_frozen BK277.out 2; have hfz6_3 := blk_frozen BK277.out 3; have hfz6_4 := blk_frozen BK277.out 4; have hfz6_5 := blk_frozen BK277.out 5) | ((with_reducible refine gate_callee (f := 26) rfl ?_); refine goesL_ (some 8) rfl rfl Tryd.func26 (by kernel_rfl) rfl #[.slice A0_5 l0_5.length c0_5, .int .i64 a1] rfl (by (try simp only [List.map_toArray, List.map_cons, List.map_nil]); first | done | rfl | (simp only [List.length_drop, List.length_take]; rfl)) ?_; (with_reducible refine (laws_heldRecordS.calls k _ _ l0_5 a1 t278 _ ?side1 ?side2 A3.out).mono ?_); (case side1 => exact (Kd.C_below HR0_5.out HB.out)); (case side2 => exact HC0_5.out); rintro e w' ⟨rfl, ⟨nd, rfl⟩⟩; refine ⟨_, rfl, ?_⟩))
    go_ret
    exact ⟨by first | rfl | (simp [errW_none, errW_some] <;> rfl) | (simp [*, errW_none, errW_some] <;> rfl), by repeat (first | (with_reducible first | exact HB.out | apply below_alloc | apply pw_below_drewN | apply below_drew1 | refine below_set ?_ GE277.out) | exact HB.out)⟩
  · rw [if_neg c4] at H
    have c4b0 : decide (t278 < 0) = false := decide_eq_false c4
    clear c4
    obtain rfl := Option.some.inj H
    go_enter Tryd.func12, Tryd.ntmps12
    go_wp2_with (first | ((with_reducible refine gate_dst (N := 2) rfl ?_); refine box_event ?hg (N := 2) ?hd (cs := #[.bool a0_0, .bool a0_1, .int .i64 a0_2, .int .i64 a0_3, .int .i64 a0_4, .slice A0_5 l0_5.length c0_5]) (t := 28) ?hr ?_; (case hd => rfl); (case hg => rfl); (case hr => first | (go_simp; done) | (go_simp; rfl)); intro gb277 hg w7 hbox hb; have n0_ := Aside0.mk (below_step HB.out hb); have n1_ := Aside0.mk (hbox); have n2_ := Aside0.mk ((by rw [hg]; exact (below_size HB.out) : w.heap.size ≤ gb277)); have n3_ := Aside0.mk ((by rw [hg]; exact (below_size HB.out) : w.heap.size ≤ gb277)); clear HB; have HB := n0_; have BK277 := n1_; have GW277 := n2_; have GE277 := n3_; clear n0_ n1_ n2_ n3_; clear hb hbox hg; have hcz8_0 : w7.cell? ⟨gb277, 0, none⟩ = some (.bool a0_0) := blk_cell BK277.out 0; have hcz8_1 : w7.cell? ⟨gb277, 1, none⟩ = some (.bool a0_1) := blk_cell BK277.out 1; have hcz8_2 : w7.cell? ⟨gb277, 2, none⟩ = some (.int .i64 a0_2) := blk_cell BK277.out 2; have hcz8_3 : w7.cell? ⟨gb277, 3, none⟩ = some (.int .i64 a0_3) := blk_cell BK277.out 3; have hcz8_4 : w7.cell? ⟨gb277, 4, none⟩ = some (.int .i64 a0_4) := blk_cell BK277.out 4; have hcz8_5 : w7.cell? ⟨gb277, 5, none⟩ = some (.slice A0_5 l0_5.length c0_5) := blk_cell BK277.out 5; have hfz8_0 := blk_frozen BK277.out 0; have hfz8_1 := blk_frozen BK277.out 1; have hfz8_2 := blk_frozen BK277.out 2; have hfz8_3 := blk_frozen BK277.out 3; have hfz8_4 := blk_frozen BK277.out 4; have hfz8_5 := blk_frozen BK277.out 5) | ((with_reducible refine gate_callee (f := 26) rfl ?_); refine goesL_ (some 8) rfl rfl Tryd.func26 (by kernel_rfl) rfl #[.slice A0_5 l0_5.length c0_5, .int .i64 a1] rfl (by (try simp only [List.map_toArray, List.map_cons, List.map_nil]); first | done | rfl | (simp only [List.length_drop, List.length_take]; rfl)) ?_; (with_reducible refine (laws_heldRecordS.calls k _ _ l0_5 a1 t278 _ ?side1 ?side2 A3.out).mono ?_); (case side1 => exact (Kd.C_below HR0_5.out HB.out)); (case side2 => exact HC0_5.out); rintro e w' ⟨rfl, ⟨nd, rfl⟩⟩; refine ⟨_, rfl, ?_⟩))
    go_ret
    exact ⟨by first | rfl | (simp [errW_none, errW_some] <;> rfl) | (simp [*, errW_none, errW_some] <;> rfl), by repeat (first | (with_reducible first | exact HB.out | apply below_alloc | apply pw_below_drewN | apply below_drew1 | refine below_set ?_ GE277.out) | exact HB.out)⟩

end Go.Proofs.YtlhbclblehmdbaaDoor.PFnExactBatchCut
