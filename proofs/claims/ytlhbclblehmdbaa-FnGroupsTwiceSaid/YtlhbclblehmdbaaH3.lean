/- Names in order; what put makes is what the reference's loop makes. -/
import Derived.Test.YtlhbclblehmdbaaH2
import Derived.Test.YtlhbclblehmdbaaG5
set_option linter.unusedVariables false
set_option linter.unusedSimpArgs false
namespace Go.Proofs.Ytlhbclblehmdbaa.PFnExactGroupsPut
open Go.RowKit Go.Proofs.YtlhbclblehmdbaaW.PrintWords Go.Proofs.YtlhbclblehmdbaaW.PrintLast Go.Proofs.YtlhbclblehmdbaaW.PrintMore

theorem u8_lt (a b : UInt8) : a < b ↔ a.toNat < b.toNat := UInt8.lt_iff_toNat_lt
theorem u8_eq (a b : UInt8) : a = b ↔ a.toNat = b.toNat := ⟨fun h => by rw [h], fun h => UInt8.toNat_inj.1 h⟩
theorem bl_cons (a b : UInt8) (x y : List UInt8) : Op.bytesLess (a :: x) (b :: y) = true ↔ a.toNat < b.toNat ∨ (a.toNat = b.toNat ∧ Op.bytesLess x y = true) := by
  rw [Op.bytesLess, Bool.or_eq_true, Bool.and_eq_true, decide_eq_true_iff, beq_iff_eq, u8_lt, u8_eq]
theorem cmp_lt : ∀ x y : List UInt8, Lib.compareBytes x y < 0 ↔ Op.bytesLess x y = true
  | [], [] => by simp [Lib.compareBytes, Op.bytesLess]
  | [], _ :: _ => by simp [Lib.compareBytes, Op.bytesLess]
  | _ :: _, [] => by simp [Lib.compareBytes, Op.bytesLess]
  | a :: x, b :: y => by
    rw [bl_cons, Lib.compareBytes, ← cmp_lt x y]
    by_cases h1 : a.toNat < b.toNat
    · rw [if_pos ((u8_lt a b).2 h1)]; simp [h1]
    · rw [if_neg (fun h => h1 ((u8_lt a b).1 h))]
      by_cases h2 : b.toNat < a.toNat
      · rw [if_pos ((u8_lt b a).2 h2)]; simp; omega
      · rw [if_neg (fun h => h2 ((u8_lt b a).1 h))]; simp [show a.toNat = b.toNat by omega]
theorem cmp_zero : ∀ x y : List UInt8, Lib.compareBytes x y = 0 ↔ x = y
  | [], [] => by simp [Lib.compareBytes]
  | [], _ :: _ => by simp [Lib.compareBytes]
  | _ :: _, [] => by simp [Lib.compareBytes]
  | a :: x, b :: y => by
    rw [Lib.compareBytes, List.cons.injEq, ← cmp_zero x y, u8_eq]
    by_cases h1 : a.toNat < b.toNat
    · rw [if_pos ((u8_lt a b).2 h1)]; simp; omega
    · rw [if_neg (fun h => h1 ((u8_lt a b).1 h))]
      by_cases h2 : b.toNat < a.toNat
      · rw [if_pos ((u8_lt b a).2 h2)]; simp; omega
      · rw [if_neg (fun h => h2 ((u8_lt b a).1 h))]; simp [show a.toNat = b.toNat by omega]
theorem bl_trans : ∀ x y z : List UInt8, Op.bytesLess x y = true → Op.bytesLess y z = true → Op.bytesLess x z = true
  | x, [], _, h, _ => by cases x <;> simp [Op.bytesLess] at h
  | x, y :: ys, [], _, h => by simp [Op.bytesLess] at h
  | [], _ :: _, _ :: _, _, _ => by simp [Op.bytesLess]
  | a :: x, b :: y, c :: z, h1, h2 => by
    rw [bl_cons] at h1 h2 ⊢
    rcases h1 with h1 | ⟨h1, h3⟩
    · rcases h2 with h2 | ⟨h2, h4⟩ <;> exact .inl (by omega)
    · rcases h2 with h2 | ⟨h2, h4⟩
      · exact .inl (by omega)
      · exact .inr ⟨by omega, bl_trans x y z h3 h4⟩
theorem bl_irrefl : ∀ x : List UInt8, Op.bytesLess x x = false
  | [] => rfl
  | a :: x => by
    rw [Bool.eq_false_iff, Ne, bl_cons, bl_irrefl x]
    simp
/-- a's name comes before b's. -/
def lt34 (a b : S34) : Prop := Op.bytesLess a.f0.toList b.f0.toList = true
theorem cmpS_lt (a b : ByteArray) : cmpS a b < 0 ↔ Op.bytesLess a.toList b.toList = true := by
  rw [cmpS, cmp_lt, ByteArray.toList_eq, ByteArray.toList_eq]
theorem cmpS_zero (a b : ByteArray) : cmpS a b = 0 ↔ a.toList = b.toList := by
  rw [cmpS, cmp_zero, ByteArray.toList_eq, ByteArray.toList_eq]
theorem pair_of : ∀ (l : List S34), (∀ t, t < l.length → 0 < t → lt34 (l.getD (t - 1) z34) (l.getD t z34)) → l.Pairwise lt34
  | [], _ => .nil
  | x :: r, h => by
    have hr := pair_of r (fun t ht h0 => by
      have := h (t + 1) (by simpa using ht) (by omega)
      rw [show t + 1 - 1 = (t - 1) + 1 by omega] at this
      simpa using this)
    refine List.pairwise_cons.2 ⟨?_, hr⟩
    cases r with
    | nil => intro z hz; cases hz
    | cons y r' =>
      have hxy : lt34 x y := by simpa using h 1 (by simp) (by decide)
      intro z hz
      rcases List.mem_cons.1 hz with rfl | hz
      · exact hxy
      · exact bl_trans _ _ _ hxy ((List.pairwise_cons.1 hr).1 z hz)
theorem vl_pair {l : List S34} (h : vl l) : l.Pairwise lt34 := pair_of l (fun t ht h0 => (h.2 t ht).2 h0)
theorem vl_mono {l : List S34} (h : vl l) (n : ByteArray) : ∀ a b, a ≤ b → b < l.length → cmpS (l.getD b z34).f0 n < 0 → cmpS (l.getD a z34).f0 n < 0 := by
  intro a b hab hb hc
  rcases Nat.eq_or_lt_of_le hab with rfl | hab
  · exact hc
  · rw [cmpS_lt] at hc ⊢
    have := List.pairwise_iff_getElem.1 (vl_pair h) a b (by omega) hb hab
    rw [List.getD_eq_getElem?_getD, List.getElem?_eq_getElem hb] at hc
    rw [List.getD_eq_getElem?_getD, List.getElem?_eq_getElem (by omega)]
    exact bl_trans _ _ _ this hc

/-- The reference's loop. -/
def refF (y : S34) : List S34 → Bool → List S34
  | [], d => if d = true then [] else [y]
  | x :: r, true => (if x.f0.toList = y.f0.toList then [] else [x]) ++ refF y r true
  | x :: r, false => if Op.bytesLess x.f0.toList y.f0.toList = true then x :: refF y r false else y :: ((if x.f0.toList = y.f0.toList then [] else [x]) ++ refF y r true)
theorem refF_true (y : S34) : ∀ l : List S34, (∀ z ∈ l, z.f0.toList ≠ y.f0.toList) → refF y l true = l
  | [], _ => rfl
  | x :: r, h => by
    rw [refF, if_neg (h x List.mem_cons_self), refF_true y r (fun z hz => h z (List.mem_cons_of_mem _ hz))]
    rfl
theorem putL_cons {x y : S34} (r : List S34) (h : lt34 x y) : putL (x :: r) y = x :: putL r y := by
  have hc : cmpS x.f0 y.f0 < 0 := (cmpS_lt _ _).2 h
  have hp : placeOf (x :: r) y.f0 = placeOf r y.f0 + 1 := by
    unfold placeOf
    exact List.countP_cons_of_pos (p := fun x : S34 => decide (cmpS x.f0 y.f0 < 0)) (decide_eq_true hc)
  have hf : foundAt (x :: r) y.f0 = foundAt r y.f0 := by
    unfold foundAt
    rw [hp]
    congr 1
    simp
  unfold putL
  rw [hf, hp]
  split
  · rfl
  · simp [insAt]
theorem putL_ref (y : S34) : ∀ l : List S34, l.Pairwise lt34 → putL l y = refF y l false
  | [], _ => rfl
  | x :: r, h => by
    obtain ⟨h1, h2⟩ := List.pairwise_cons.1 h
    by_cases hx : Op.bytesLess x.f0.toList y.f0.toList = true
    · rw [putL_cons r hx, putL_ref y r h2, refF, if_pos hx]
    · rw [refF, if_neg hx]
      have hz : ∀ z ∈ r, z.f0.toList ≠ y.f0.toList ∧ ¬ Op.bytesLess z.f0.toList y.f0.toList = true := fun z hz => by
        refine ⟨fun e => hx ?_, fun e => hx (bl_trans _ _ _ (h1 z hz) e)⟩
        rw [← e]
        exact h1 z hz
      rw [refF_true y r (fun z h => (hz z h).1)]
      have hp : placeOf (x :: r) y.f0 = 0 := by
        unfold placeOf
        rw [List.countP_eq_zero]
        intro z hz'
        rw [decide_eq_true_iff, cmpS_lt]
        rcases List.mem_cons.1 hz' with rfl | hz'
        · exact hx
        · exact (hz z hz').2
      unfold putL foundAt
      rw [hp]
      by_cases e : x.f0.toList = y.f0.toList
      · rw [if_pos e, if_pos (by simp [cmpS_zero, e])]
        rfl
      · rw [if_neg e, if_neg (by simp [cmpS_zero, e])]
        rfl
end Go.Proofs.Ytlhbclblehmdbaa.PFnExactGroupsPut
