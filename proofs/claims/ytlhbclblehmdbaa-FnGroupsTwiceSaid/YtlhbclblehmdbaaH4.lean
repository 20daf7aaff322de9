/- What the reference's GroupsPut and the law's own functions compute. -/
import Derived.Test.YtlhbclblehmdbaaH3
import Derived.Test.YtlhbclblehmdbaaPFnExactGroupsPutx6
import Derived.Test.YtlhbclblehmdbaaPFnExactGroupsPutx7
set_option linter.unusedVariables false
set_option linter.unusedSimpArgs false
namespace Go.Proofs.Ytlhbclblehmdbaa.PFnExactGroupsPut
open Go.RowKit Go.Proofs.YtlhbclblehmdbaaW.PrintWords Go.Proofs.YtlhbclblehmdbaaW.PrintLast Go.Proofs.YtlhbclblehmdbaaW.PrintMore

/-- What the reference hands back for a list so far. -/
def fin8 (o : List S34) : List S34 × Bool := if o.length > 8 then ([], false) else (o, true)
theorem fin8_eq (o : List S34) : (if (o.length : Int) > 8 then (some (([] : List S34), false)) else some (o, true)) = some (fin8 o) := by
  unfold fin8
  by_cases h : o.length > 8
  · rw [if_pos h, if_pos (by omega)]
  · rw [if_neg h, if_neg (by omega)]
theorem drop_nat (l : List S34) {i : Nat} (h : i < l.length) : l.drop i = l.getD i z34 :: l.drop (i + 1) := by
  rw [List.getD_eq_getElem?_getD, List.getElem?_eq_getElem h]
  exact List.drop_eq_getElem_cons h
theorem spec_put_loop (y : S34) (l : List S34) (hl : l.length < 1099511627776) : ∀ (m K i : Nat) (o : List S34) (d : Bool), l.length - i ≤ m → i ≤ l.length → 2 * m + 1 < K → o.length ≤ 2 * i →
    spec_GroupsPut.l0 K l o d (i : Int) y.f0 y.f1 = some (fin8 (o ++ refF y (l.drop i) d))
  | m, 0, i, o, d, _, _, h, _ => absurd h (Nat.not_lt_zero _)
  | m, 1, i, o, d, _, _, h, _ => absurd h (by omega)
  | m, K + 2, i, o, d, hm, hi, hK, ho => by
    rw [spec_GroupsPut.l0]
    by_cases c1 : i < l.length
    · have ih := fun (o' : List S34) (d' : Bool) (ho' : o'.length ≤ 2 * (i + 1)) => spec_put_loop y l hl (m - 1) K (i + 1) o' d' (by omega) (by omega) (by omega) ho'
      have ew : wrap64 ((i : Int) + 1) = ((i + 1 : Nat) : Int) := by unfold wrap64; omega
      have hb : ∀ n : Nat, n ≤ 2 * i + 2 → n < 5864062014805 := fun n hn => by omega
      rw [if_pos (by omega), drop_nat l c1]
      cases d with
      | true =>
        rw [if_pos rfl, spec_GroupsPut.j2, if_neg (by decide), if_pos (by omega), if_pos (by omega), rd_nat, ew]
        by_cases c2 : (l.getD i z34).f0.toList = y.f0.toList
        · rw [if_pos c2, ih o true (by omega), refF, if_pos c2]; rfl
        · rw [if_neg c2, if_pos (hb _ (by omega)), ih _ true (by simp; omega), refF, if_neg c2]
          simp
      | false =>
        rw [if_neg (by decide), if_pos (by omega), spec_GroupsPut.j2, rd_nat, ew]
        by_cases c3 : Op.bytesLess (l.getD i z34).f0.toList y.f0.toList = true
        · have c2 : ¬ (l.getD i z34).f0.toList = y.f0.toList := fun e => by rw [e, bl_irrefl] at c3; exact absurd c3 (by simp)
          rw [if_neg (by rw [c3]; decide), if_pos (by omega), if_pos (by omega), if_neg c2, if_pos (hb _ (by omega)), ih _ false (by simp; omega), refF, if_pos c3]
          simp
        · have c3' : Op.bytesLess (l.getD i z34).f0.toList y.f0.toList = false := by simpa only [Bool.not_eq_true] using c3
          rw [if_pos (by rw [c3']; rfl), if_pos (hb _ (by omega))]
          simp only [Option.bind_some]
          rw [if_pos (by omega), if_pos (by omega)]
          by_cases c2 : (l.getD i z34).f0.toList = y.f0.toList
          · rw [if_pos c2, ih _ true (by simp; omega), refF, if_neg c3, if_pos c2]
            simp
          · rw [if_neg c2, if_pos (hb _ (by simp; omega)), ih _ true (by simp; omega), refF, if_neg c3, if_neg c2]
            simp
    · rw [if_neg (by omega), List.drop_eq_nil_of_le (by omega)]
      cases d with
      | true => rw [if_pos rfl, fin8_eq]; simp [refF]
      | false =>
        rw [if_neg (by decide), if_pos (by omega)]
        simp only [Option.bind_some]
        rw [fin8_eq]
        simp [refF]
end Go.Proofs.Ytlhbclblehmdbaa.PFnExactGroupsPut
