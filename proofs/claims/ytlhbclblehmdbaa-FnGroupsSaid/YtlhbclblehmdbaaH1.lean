/- What the program's and the reference's GroupsValid compute: the same. -/
import Derived.Test.YtlhbclblehmdbaaG4
set_option linter.unusedVariables false
set_option linter.unusedSimpArgs false
namespace Go.Proofs.Ytlhbclblehmdbaa.PFnExactGroupsPut
open Go.RowKit Go.Proofs.YtlhbclblehmdbaaW.PrintWords Go.Proofs.YtlhbclblehmdbaaW.PrintLast Go.Proofs.YtlhbclblehmdbaaW.PrintMore

/-- A byte that is a small letter. -/
def okB (a : ByteArray) (t : Nat) : Prop := 97 ≤ bt a t ∧ bt a t ≤ 122
theorem letters_loop (a : ByteArray) (hs : a.size < 4611686018427387904) : ∀ (m K i : Nat), a.size - i ≤ m → i ≤ a.size → m < K → ∃ r, impl_letters.l0 K a (a.size : Int) (i : Int) = some r ∧ (r = true ↔ ∀ t : Nat, i ≤ t → t < a.size → okB a t)
  | m, 0, i, _, _, h => absurd h (Nat.not_lt_zero _)
  | m, K + 1, i, hm, hi, hK => by
    simp only [impl_letters.l0]
    by_cases c1 : i < a.size
    · rw [if_pos (by omega), if_pos (by omega), if_pos (by omega)]
      by_cases c2 : bt a i < 97
      · rw [if_pos c2]
        exact ⟨_, rfl, by simp; exact ⟨i, Nat.le_refl _, c1, fun h => by have := h.1; omega⟩⟩
      · rw [if_neg c2]
        by_cases c3 : bt a i > 122
        · rw [if_pos c3]
          exact ⟨_, rfl, by simp; exact ⟨i, Nat.le_refl _, c1, fun h => by have := h.2; omega⟩⟩
        · rw [if_neg c3, show wrap64 ((i : Int) + 1) = ((i + 1 : Nat) : Int) by unfold wrap64; omega]
          obtain ⟨r, h1, h2⟩ := letters_loop a hs (m - 1) K (i + 1) (by omega) (by omega) (by omega)
          refine ⟨r, h1, h2.trans ⟨fun h t ht htn => ?_, fun h t ht htn => h t (by omega) htn⟩⟩
          rcases Nat.eq_or_lt_of_le ht with rfl | ht
          · exact ⟨by omega, by omega⟩
          · exact h t ht htn
    · rw [if_neg (by omega)]
      exact ⟨_, rfl, by simp; intro t h1 h2; omega⟩
/-- A valid group. -/
def gv (x : S34) : Prop := 1 ≤ x.f0.size ∧ x.f0.size ≤ 6 ∧ (∀ t : Nat, t < x.f0.size → okB x.f0 t) ∧ 0 ≤ x.f1 ∧ x.f1 ≤ 100000
theorem impl_gv (x : S34) (K : Nat) (hs : x.f0.size < 4611686018427387904) (hK : 9 ≤ K) : ∃ r, impl_groupValid.f K x.f0 x.f1 = some r ∧ (r = true ↔ gv x) := by
  obtain ⟨k, rfl⟩ : ∃ k, K = k + 1 := ⟨K - 1, by omega⟩
  have hw : impl_within.f x.f1 0 100000 = some (decide (0 ≤ x.f1 ∧ x.f1 ≤ 100000)) := by
    unfold impl_within.f
    by_cases h : x.f1 ≥ 0
    · rw [if_pos h]; congr 1; simp [h]
    · rw [if_neg h]; congr 1; simp; omega
  unfold impl_groupValid.f impl_letters.f
  by_cases c1 : (x.f0.size : Int) < 1
  · rw [if_pos c1]
    refine ⟨false, by simp [impl_letters.j0], by simp [gv]; omega⟩
  · rw [if_neg c1]
    by_cases c2 : (x.f0.size : Int) > 6
    · rw [decide_eq_true c2]
      exact ⟨false, by simp [impl_letters.j0], by simp [gv]; omega⟩
    · rw [decide_eq_false c2]
      obtain ⟨r, h1, h2⟩ := letters_loop x.f0 hs 6 k 0 (by omega) (by omega) (by omega)
      simp only [impl_letters.j0, Bool.false_eq_true, if_false]
      rw [show ((0 : Nat) : Int) = 0 from rfl] at h1
      rw [h1]
      simp only [Option.bind_some]
      cases r with
      | false =>
        refine ⟨false, by simp, by simp [gv]; intro _ _ h; exact absurd (h2.2 (fun t _ => h t)) (by simp)⟩
      | true =>
        rw [if_pos rfl, hw]
        simp only [Option.bind_some]
        refine ⟨_, rfl, ?_⟩
        rw [decide_eq_true_iff]
        have := h2.1 rfl
        exact ⟨fun h => ⟨by omega, by omega, fun t ht => this t (Nat.zero_le _) ht, h.1, h.2⟩, fun h => ⟨h.2.2.2.1, h.2.2.2.2⟩⟩
theorem spec_loop (x : S34) (hs : x.f0.size < 4611686018427387904) : ∀ (m K i : Nat), x.f0.size - i ≤ m → i ≤ x.f0.size → m < K → ∃ r, spec_l32Group.l0 K (i : Int) x.f0 x.f1 = some r ∧ (r = true ↔ (∀ t : Nat, i ≤ t → t < x.f0.size → okB x.f0 t) ∧ 1 ≤ x.f0.size ∧ x.f0.size ≤ 6 ∧ 0 ≤ x.f1 ∧ x.f1 ≤ 100000)
  | m, 0, i, _, _, h => absurd h (Nat.not_lt_zero _)
  | m, K + 1, i, hm, hi, hK => by
    simp only [spec_l32Group.l0]
    by_cases c1 : i < x.f0.size
    · rw [if_pos (by omega), if_pos (by omega)]
      by_cases c2 : bt x.f0 i < 97
      · rw [if_pos c2]
        exact ⟨_, rfl, by simp; intro h; have := (h i (Nat.le_refl _) c1).1; omega⟩
      · rw [if_neg c2]
        by_cases c3 : bt x.f0 i > 122
        · rw [if_pos c3]
          exact ⟨_, rfl, by simp; intro h; have := (h i (Nat.le_refl _) c1).2; omega⟩
        · rw [if_neg c3, show wrap64 ((i : Int) + 1) = ((i + 1 : Nat) : Int) by unfold wrap64; omega]
          obtain ⟨r, h1, h2⟩ := spec_loop x hs (m - 1) K (i + 1) (by omega) (by omega) (by omega)
          refine ⟨r, h1, h2.trans ⟨fun h => ⟨fun t ht htn => ?_, h.2⟩, fun h => ⟨fun t ht htn => h.1 t (by omega) htn, h.2⟩⟩⟩
          rcases Nat.eq_or_lt_of_le ht with rfl | ht
          · exact ⟨by omega, by omega⟩
          · exact h.1 t ht htn
    · rw [if_neg (by omega)]
      have hin : ∀ a b c : Int, spec_l6In.f a b c = some (decide (b ≤ a ∧ a ≤ c)) := fun a b c => by
        unfold spec_l6In.f
        by_cases h : a ≥ b
        · rw [if_pos h]; congr 1; simp [h]
        · rw [if_neg h]; congr 1; simp; omega
      rw [hin, hin]
      simp only [Option.bind_some]
      by_cases c4 : (1 : Int) ≤ x.f0.size ∧ (x.f0.size : Int) ≤ 6
      · rw [decide_eq_true c4, if_pos rfl]
        refine ⟨_, rfl, ?_⟩
        rw [decide_eq_true_iff]
        exact ⟨fun h => ⟨fun t h1 h2 => by omega, by omega, by omega, h.1, h.2⟩, fun h => h.2.2.2⟩
      · rw [decide_eq_false c4]
        exact ⟨false, by simp, by simp; intros; omega⟩
theorem spec_gv (x : S34) (K : Nat) (hs : x.f0.size < 4611686018427387904) (hK : x.f0.size < K) : ∃ r, spec_l32Group.f K x.f0 x.f1 = some r ∧ (r = true ↔ gv x) := by
  obtain ⟨r, h1, h2⟩ := spec_loop x hs x.f0.size K 0 (by omega) (by omega) hK
  exact ⟨r, h1, h2.trans ⟨fun h => ⟨h.2.1, h.2.2.1, fun t ht => h.1 t (Nat.zero_le _) ht, h.2.2.2.1, h.2.2.2.2⟩, fun h => ⟨fun t _ ht => h.2.2.1 t ht, h.1, h.2.1, h.2.2.2.1, h.2.2.2.2⟩⟩⟩
end Go.Proofs.Ytlhbclblehmdbaa.PFnExactGroupsPut
