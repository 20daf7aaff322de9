/- The lists' validity; names compared. -/
import Derived.Test.YtlhbclblehmdbaaH1
import Derived.Test.YtlhbclblehmdbaaG9
set_option linter.unusedVariables false
set_option linter.unusedSimpArgs false
namespace Go.Proofs.Ytlhbclblehmdbaa.PFnExactGroupsPut
open Go.RowKit Go.Proofs.YtlhbclblehmdbaaW.PrintWords Go.Proofs.YtlhbclblehmdbaaW.PrintLast Go.Proofs.YtlhbclblehmdbaaW.PrintMore

/-- Place t of a list is valid. -/
def gvAt (l : List S34) (t : Nat) : Prop := gv (l.getD t z34) ∧ (0 < t → Op.bytesLess (l.getD (t - 1) z34).f0.toList (l.getD t z34).f0.toList = true)
/-- A valid list. -/
def vl (l : List S34) : Prop := l.length ≤ 8 ∧ ∀ t, t < l.length → gvAt l t
theorem rd_nat (l : List S34) (t : Nat) : rd_T34 l (t : Int) = l.getD t z34 := rfl
theorem getD_size {M : Nat} {l : List S34} (hM : ∀ x ∈ l, x.f0.size ≤ M) {t : Nat} (ht : t < l.length) : (l.getD t z34).f0.size ≤ M := by
  rw [List.getD_eq_getElem?_getD, List.getElem?_eq_getElem ht]
  exact hM _ (List.getElem_mem ht)
theorem step_iff {P : Nat → Prop} {i n : Nat} (hi : i < n) {r : Bool} (h0 : P i) (h : r = true ↔ ∀ t, i + 1 ≤ t → t < n → P t) : r = true ↔ ∀ t, i ≤ t → t < n → P t :=
  h.trans ⟨fun h t ht htn => by
    rcases Nat.eq_or_lt_of_le ht with rfl | ht
    · exact h0
    · exact h t ht htn, fun h t ht htn => h t (by omega) htn⟩
theorem impl_valid_loop (l : List S34) (hM : ∀ x ∈ l, x.f0.size ≤ 1048576) (hl : l.length < 4611686018427387904) : ∀ (m K i : Nat), l.length - i ≤ m → i ≤ l.length → m + 9 < K →
    ∃ r, impl_GroupsValid.l0 K l l (l.length : Int) (i : Int) = some r ∧ (r = true ↔ ∀ t, i ≤ t → t < l.length → gvAt l t)
  | m, 0, i, _, _, h => absurd h (Nat.not_lt_zero _)
  | m, K + 1, i, hm, hi, hK => by
    simp only [impl_GroupsValid.l0]
    by_cases c1 : i < l.length
    · rw [if_pos (by omega), if_pos (by omega), if_pos (by omega)]
      obtain ⟨r, h1, h2⟩ := impl_gv (l.getD i z34) K (by have := getD_size hM c1; omega) (by omega)
      rw [rd_nat, h1]
      simp only [Option.bind_some]
      cases r with
      | false =>
        refine ⟨false, by simp, by simp; exact ⟨i, Nat.le_refl _, c1, fun h => absurd (h2.2 h.1) (by simp)⟩⟩
      | true =>
        rw [if_pos rfl, show wrap64 ((i : Int) + 1) = ((i + 1 : Nat) : Int) by unfold wrap64; omega]
        obtain ⟨r', h3, h4⟩ := impl_valid_loop l hM hl (m - 1) K (i + 1) (by omega) (by omega) (by omega)
        by_cases c2 : (i : Int) > 0
        · rw [if_pos c2, show wrap64 ((i : Int) - 1) = ((i - 1 : Nat) : Int) by unfold wrap64; omega, if_pos (by omega), if_pos (by omega), rd_nat]
          by_cases c3 : Op.bytesLess (l.getD (i - 1) z34).f0.toList (l.getD i z34).f0.toList = true
          · rw [if_pos c3]
            exact ⟨r', h3, step_iff c1 ⟨h2.1 rfl, fun _ => c3⟩ h4⟩
          · rw [if_neg c3]
            exact ⟨false, rfl, by simp; exact ⟨i, Nat.le_refl _, c1, fun h => c3 (h.2 (by omega))⟩⟩
        · rw [if_neg c2]
          exact ⟨r', h3, step_iff c1 ⟨h2.1 rfl, fun h => absurd h (by omega)⟩ h4⟩
    · rw [if_neg (by omega)]
      exact ⟨true, rfl, by simp; intro t h1 h2; omega⟩
theorem impl_vl (l : List S34) (K : Nat) (hM : ∀ x ∈ l, x.f0.size ≤ 1048576) (hl : l.length < 4611686018427387904) (hK : l.length + 9 < K) : ∃ r, impl_GroupsValid.f K l = some r ∧ (r = true ↔ vl l) := by
  unfold impl_GroupsValid.f
  by_cases c : (l.length : Int) > 8
  · rw [if_pos c]
    exact ⟨false, rfl, by simp [vl]; omega⟩
  · rw [if_neg c]
    obtain ⟨r, h1, h2⟩ := impl_valid_loop l hM hl l.length K 0 (by omega) (by omega) hK
    exact ⟨r, h1, h2.trans ⟨fun h => ⟨by omega, fun t ht => h t (Nat.zero_le _) ht⟩, fun h t _ ht => h.2 t ht⟩⟩
theorem spec_valid_loop (l : List S34) (hM : ∀ x ∈ l, x.f0.size ≤ 1048576) (hl : l.length < 4611686018427387904) : ∀ (m K i : Nat), l.length - i ≤ m → i ≤ l.length → m + 1048576 < K →
    ∃ r, spec_GroupsValid.l0 (K + 1) l (i : Int) = some r ∧ (r = true ↔ (∀ t, i ≤ t → t < l.length → gvAt l t) ∧ l.length ≤ 8)
  | m, 0, i, _, _, h => absurd h (Nat.not_lt_zero _)
  | m, K + 1, i, hm, hi, hK => by
    rw [spec_GroupsValid.l0]
    by_cases c1 : i < l.length
    · rw [if_pos (by omega), if_pos (by omega)]
      obtain ⟨r, h1, h2⟩ := spec_gv (l.getD i z34) (K + 1) (by have := getD_size hM c1; omega) (by have := getD_size hM c1; omega)
      rw [rd_nat, h1]
      simp only [Option.bind_some]
      cases r with
      | false =>
        refine ⟨false, by simp, by simp; intro h; exact absurd (h2.2 (h i (Nat.le_refl _) c1).1) (by simp)⟩
      | true =>
        rw [if_pos rfl, show wrap64 ((i : Int) + 1) = ((i + 1 : Nat) : Int) by unfold wrap64; omega]
        obtain ⟨r', h3, h4⟩ := spec_valid_loop l hM hl (m - 1) K (i + 1) (by omega) (by omega) (by omega)
        have h5 : ∀ p : gvAt l i, (r' = true ↔ (∀ t, i ≤ t → t < l.length → gvAt l t) ∧ l.length ≤ 8) := fun p => h4.trans ⟨fun h => ⟨fun t ht htn => by
          rcases Nat.eq_or_lt_of_le ht with rfl | ht
          · exact p
          · exact h.1 t ht htn, h.2⟩, fun h => ⟨fun t ht htn => h.1 t (by omega) htn, h.2⟩⟩
        by_cases c2 : (i : Int) > 0
        · rw [if_pos c2, show wrap64 ((i : Int) - 1) = ((i - 1 : Nat) : Int) by unfold wrap64; omega, if_pos (by omega), if_pos (by omega), rd_nat]
          by_cases c3 : Op.bytesLess (l.getD (i - 1) z34).f0.toList (l.getD i z34).f0.toList = true
          · rw [if_pos c3]
            exact ⟨r', h3, h5 ⟨h2.1 rfl, fun _ => c3⟩⟩
          · rw [if_neg c3]
            exact ⟨false, rfl, by simp; intro h; exact absurd ((h i (Nat.le_refl _) c1).2 (by omega)) (by simpa using c3)⟩
        · rw [if_neg c2]
          exact ⟨r', h3, h5 ⟨h2.1 rfl, fun h => absurd h (by omega)⟩⟩
    · rw [if_neg (by omega)]
      refine ⟨_, rfl, ?_⟩
      rw [decide_eq_true_iff]
      exact ⟨fun h => ⟨fun t h1 h2 => by omega, by omega⟩, fun h => by have := h.2; omega⟩
theorem spec_vl (l : List S34) (K : Nat) (hM : ∀ x ∈ l, x.f0.size ≤ 1048576) (hl : l.length < 4611686018427387904) (hK : l.length + 1048577 < K) : ∃ r, spec_GroupsValid.f K l = some r ∧ (r = true ↔ vl l) := by
  obtain ⟨k, rfl⟩ : ∃ k, K = k + 1 := ⟨K - 1, by omega⟩
  obtain ⟨r, h1, h2⟩ := spec_valid_loop l hM hl l.length k 0 (by omega) (by omega) (by omega)
  exact ⟨r, h1, h2.trans ⟨fun h => ⟨h.2, fun t ht => h.1 t (Nat.zero_le _) ht⟩, fun h => ⟨fun t _ ht => h.2 t ht, h.1⟩⟩⟩
end Go.Proofs.Ytlhbclblehmdbaa.PFnExactGroupsPut
