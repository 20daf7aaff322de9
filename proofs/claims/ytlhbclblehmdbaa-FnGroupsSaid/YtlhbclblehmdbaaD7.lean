/- The plain law of FnGroups: the group stands in its place, and beside it stands what stood there before. -/
import Derived.Test.YtlhbclblehmdbaaD5
import Derived.Test.YtlhbclblehmdbaaD6
set_option linter.unusedVariables false
set_option linter.unusedSimpArgs false
namespace Go.Proofs.Ytlhbclblehmdbaa.PFnExactGroupsPut
open Go.RowKit Go.Proofs.YtlhbclblehmdbaaW.PrintWords Go.Proofs.YtlhbclblehmdbaaW.PrintLast Go.Proofs.YtlhbclblehmdbaaW.PrintMore

theorem rd_left {A B : List S34} {y : S34} {i : Nat} (h : i < A.length) : rd_T34 (A ++ y :: B) (i : Int) ∈ A := by
  rw [rd_nat, List.getD_eq_getElem?_getD, List.getElem?_append_left h, List.getElem?_eq_getElem h]
  exact List.getElem_mem _
theorem rd_mid {A B : List S34} {y : S34} : rd_T34 (A ++ y :: B) (A.length : Int) = y := by
  rw [rd_nat, List.getD_eq_getElem?_getD, List.getElem?_append_right (Nat.le_refl _)]
  simp

/-- The inner loop: what has another name, and the end of the law. -/
theorem groups_inner (L A B : List S34) (y : S34) (hv : vl (A ++ y :: B)) (hs : short (A ++ y :: B)) (hL : L.length ≤ 8) (hf : L.filter (nameNe y) = A ++ B) : ∀ (m K j : Nat), L.length - j ≤ m → j ≤ L.length → m + 1000 < K →
    laws_FnGroups.l1 K L (A ++ y :: B) (A.length : Int) (A ++ B) ((L.take j).filter (nameNe y)) (j : Int) y.f0 y.f1 = some true
  | m, 0, j, _, _, h => absurd h (by omega)
  | m, K + 1, j, hm, hj, hK => by
    rw [laws_FnGroups.l1]
    by_cases c : j < L.length
    · have hlen : ((L.take j).filter (nameNe y)).length ≤ 8 := Nat.le_trans (List.length_filter_le _ _) (by rw [List.length_take]; omega)
      have ih := groups_inner L A B y hv hs hL hf (m - 1) K (j + 1) (by omega) (by omega) (by omega)
      have ht : L.take (j + 1) = L.take j ++ [L.getD j z34] := by
        rw [List.take_succ_eq_append_getElem c, List.getD_eq_getElem?_getD, List.getElem?_eq_getElem c]
        rfl
      rw [ht, List.filter_append] at ih
      rw [if_pos (by omega), if_pos (by omega), show wrap64 ((j : Int) + 1) = ((j + 1 : Nat) : Int) from by rw [w64 (by omega) (by omega)]; rfl, rd_nat]
      by_cases e : (L.getD j z34).f0.toList = y.f0.toList
      · rw [if_pos e]
        rw [List.filter_cons_of_neg (by unfold nameNe; simp only [e, beq_self_eq_true, Bool.not_true]; decide), List.filter_nil, List.append_nil] at ih
        exact ih
      · rw [if_neg e, if_pos (by omega)]
        rw [List.filter_cons_of_pos (by unfold nameNe; rw [Bool.not_eq_true', beq_eq_false_iff_ne]; exact e), List.filter_nil] at ih
        exact ih
    · obtain ⟨va, hva, iva⟩ := impl_vl (A ++ y :: B) K (fun x h => by have := hs x h; omega) (by have := hv.1; omega) (by have := hv.1; omega)
      obtain rfl := iva.2 hv
      have hl := hv.1
      rw [List.length_append, List.length_cons] at hl
      rw [if_neg (by omega), hva]
      simp only [Option.bind_some, if_true]
      rw [if_pos (by omega), if_pos (by rw [List.length_append, List.length_cons]; omega), rd_mid, if_pos (by simp), List.take_of_length_le (by omega), hf, same_ok _ _ (by rw [List.length_append]; omega) (by rw [List.length_append]; omega)]
      rfl

/-- The outer loop: up to the group. -/
theorem groups_outer (L A B : List S34) (y : S34) (hA : ∀ x ∈ A, lt34 x y) (hv : vl (A ++ y :: B)) (hs : short (A ++ y :: B)) (hL : L.length ≤ 8) (hf : L.filter (nameNe y) = A ++ B) : ∀ (m K i : Nat), A.length - i ≤ m → i ≤ A.length → m + 3000 < K →
    laws_FnGroups.l0 K L (A ++ y :: B) (i : Int) y.f0 y.f1 = some true
  | m, 0, i, _, _, h => absurd h (by omega)
  | m, K + 1, i, hm, hi, hK => by
    have hl := hv.1
    have hl' : (A ++ y :: B).length = A.length + B.length + 1 := by rw [List.length_append, List.length_cons]; omega
    rw [laws_FnGroups.l0, if_pos (by omega), if_pos (by omega)]
    by_cases c : i < A.length
    · rw [if_neg (lt34_ne (hA _ (rd_left c))), show wrap64 ((i : Int) + 1) = ((i + 1 : Nat) : Int) from by rw [w64 (by omega) (by omega)]; rfl]
      exact groups_outer L A B y hA hv hs hL hf (m - 1) K (i + 1) (by omega) (by omega) (by omega)
    · obtain rfl : i = A.length := by omega
      rw [rd_mid, if_pos rfl, show wrap64 ((A.length : Int) + 1) = ((A.length + 1 : Nat) : Int) from by rw [w64 (by omega) (by omega)]; rfl]
      simp only [Option.bind_some]
      rw [if_pos (by omega), Int.toNat_natCast, List.take_left, if_pos (by simp only [List.length_nil]; omega), List.nil_append, if_pos (by omega), if_pos (by omega), Int.toNat_natCast]
      have hd : (A ++ y :: B).drop (A.length + 1) = B := by
        rw [List.drop_append]
        simp
      rw [hd, if_pos (by omega)]
      exact groups_inner L A B y hv hs hL hf L.length K 0 (by omega) (by omega) (by omega)

theorem FnGroups : laws_FnGroups.Pure := by
  intro l0 _ _ hx
  refine ⟨100000001, ?_⟩
  unfold laws_FnGroups.f
  by_cases c : (l0.length : Int) > 1048576
  · rw [if_pos c]
  · rw [if_neg c]
    obtain ⟨L, y, R, ok, hd, h8, hs, hn, hR, hI, hR8, hRs, hok⟩ := drawn 100000001 l0 hx (by omega)
    rw [hd]
    simp only [Option.bind_some]
    rw [hI]
    simp only [Option.bind_some]
    rw [hR]
    simp only [Option.bind_some, bne_self_eq_false, Bool.false_eq_true, if_false]
    rw [same_ok R _ (by omega) (by omega)]
    simp only [Option.bind_some, if_true]
    rw [laws_FnGroups.j0]
    cases ok with
    | false =>
      rw [if_pos (by decide), if_pos (by decide), same_ok R _ (by omega) (by omega)]
      rfl
    | true =>
      obtain ⟨ha, hy, rfl⟩ := hok rfl
      obtain ⟨A, B, e, hA, hB, hf, hv, hfix⟩ := put_parts ha hy hR8
      rw [e] at hv hRs ⊢
      rw [if_neg (by decide)]
      exact groups_outer L A B y hA hv hRs h8 hf A.length 100000000 0 (by omega) (by omega) (by have := hv.1; rw [List.length_append, List.length_cons] at this; omega)
end Go.Proofs.Ytlhbclblehmdbaa.PFnExactGroupsPut
