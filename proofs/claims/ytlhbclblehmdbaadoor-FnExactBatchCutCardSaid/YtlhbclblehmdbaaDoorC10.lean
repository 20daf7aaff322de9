/- What the marking of numbers and of records leaves, in plain lists, and that it is read again. -/
import Derived.Test.YtlhbclblehmdbaaDoorC9
import Derived.Test.YtlhbclblehmdbaaDoorC2
set_option linter.unusedVariables false
set_option linter.unusedSimpArgs false
namespace Go.Proofs.YtlhbclblehmdbaaDoor.PFnExactBatchCut
open Go.RowKit Go.Proofs.YtlhbclblehmdbaaDoorW.PrintWords Go.Proofs.YtlhbclblehmdbaaDoorW.PrintLast Go.Proofs.YtlhbclblehmdbaaDoorW.PrintMore

def markI : List Int → Int → List Int
  | [], _ => []
  | _ :: t, k => k :: markI t (k + 1)
theorem markI_length (l : List Int) : ∀ k, (markI l k).length = l.length := by
  induction l with
  | nil => intro k; rfl
  | cons x t ih => intro k; simp [markI, ih]
theorem w64 {n : Int} (h0 : -9223372036854775808 ≤ n) (h1 : n ≤ 9223372036854775807) : wrap64 n = n := by unfold wrap64; omega

theorem markInt_loop (d : Nat) : ∀ (pre l : List Int) (k : Int) (K : Nat), l.length = d → d < K → 0 ≤ k → k + d ≤ 9223372036854775806 → (pre.length : Int) + d ≤ 9223372036854775806 →
    laws_markIntS.l0 K (pre ++ l) k (pre.length : Int) = some (k + l.length, pre ++ markI l k) := by
  induction d with
  | zero =>
    intro pre l k K hl hK _ _ _
    obtain ⟨K, rfl⟩ : ∃ m, K = m + 1 := ⟨K - 1, by omega⟩
    obtain rfl := List.eq_nil_of_length_eq_zero hl
    simp [laws_markIntS.l0, markI]
  | succ d ih =>
    intro pre l k K hl hK hk hb hp
    obtain ⟨K, rfl⟩ : ∃ m, K = m + 1 := ⟨K - 1, by omega⟩
    cases l with
    | nil => simp at hl
    | cons x t =>
      have hlt : (pre.length : Int) < ((pre ++ x :: t).length : Int) := by simp; omega
      simp only [laws_markIntS.l0]
      rw [if_pos hlt, if_pos (by omega)]
      have e1 : (pre ++ x :: t).set (pre.length : Int).toNat k = (pre ++ [k]) ++ t := by simp
      have e2 : wrap64 ((pre.length : Int) + 1) = ((pre ++ [k]).length : Int) := by rw [w64 (by omega) (by omega)]; simp
      have e3 : wrap64 (k + 1) = k + 1 := w64 (by omega) (by omega)
      rw [e1, e2, e3]
      rw [ih (pre ++ [k]) t (k + 1) K (by simpa using hl) (by omega) (by omega) (by omega) (by simp; omega)]
      simp [markI]; omega
theorem markInt (l : List Int) (k : Int) (K : Nat) (hK : l.length < K) (hk : 0 ≤ k) (hb : k + l.length ≤ 9223372036854775806) : laws_markIntS.f K l k = some (k + l.length, markI l k) := by
  have h := markInt_loop l.length [] l k K rfl hK hk hb (by simp; omega)
  simpa [laws_markIntS.f] using h

theorem heldInt_loop (d : Nat) : ∀ (pre l : List Int) (k : Int) (K : Nat), l.length = d → d < K → 0 ≤ k → k + d ≤ 9223372036854775806 → (pre.length : Int) + d ≤ 9223372036854775806 →
    laws_heldIntS.l0 K (pre ++ markI l k) k (pre.length : Int) = some (k + l.length) := by
  induction d with
  | zero =>
    intro pre l k K hl hK _ _ _
    obtain ⟨K, rfl⟩ : ∃ m, K = m + 1 := ⟨K - 1, by omega⟩
    obtain rfl := List.eq_nil_of_length_eq_zero hl
    simp [laws_heldIntS.l0, markI]
  | succ d ih =>
    intro pre l k K hl hK hk hb hp
    obtain ⟨K, rfl⟩ : ∃ m, K = m + 1 := ⟨K - 1, by omega⟩
    cases l with
    | nil => simp at hl
    | cons x t =>
      have hlt : (pre.length : Int) < ((pre ++ markI (x :: t) k).length : Int) := by simp [markI]; omega
      have hr : rd (pre ++ markI (x :: t) k) (pre.length : Int) = k := by simp [rd, markI]
      simp only [laws_heldIntS.l0]
      rw [if_pos hlt, if_pos (by omega), hr, if_pos rfl]
      have e1 : pre ++ markI (x :: t) k = (pre ++ [k]) ++ markI t (k + 1) := by simp [markI]
      have e2 : wrap64 ((pre.length : Int) + 1) = ((pre ++ [k]).length : Int) := by rw [w64 (by omega) (by omega)]; simp
      have e3 : wrap64 (k + 1) = k + 1 := w64 (by omega) (by omega)
      rw [e1, e2, e3, ih (pre ++ [k]) t (k + 1) K (by simpa using hl) (by omega) (by omega) (by omega) (by simp; omega)]
      simp; omega
theorem heldInt (l : List Int) (k : Int) (K : Nat) (hK : l.length < K) (hk : 0 ≤ k) (hb : k + l.length ≤ 9223372036854775806) : laws_heldIntS.f K (markI l k) k = some (k + l.length) := by
  have h := heldInt_loop l.length [] l k K rfl hK hk hb (by simp; omega)
  simpa [laws_heldIntS.f] using h

/-- One record, marked from k on. -/
def mark1 (r : S41) (k : Int) : S41 := ⟨k, k + 1, (k + 2) % 3 == 0, markI r.f3 (k + 3), (k + 3 + r.f3.length) % 3 == 0, markI r.f5 (k + 4 + r.f3.length)⟩
def next1 (r : S41) (k : Int) : Int := k + 4 + r.f3.length + r.f5.length
def markR : List S41 → Int → List S41
  | [], _ => []
  | r :: t, k => mark1 r k :: markR t (next1 r k)
def nextR : List S41 → Int → Int
  | [], k => k
  | r :: t, k => nextR t (next1 r k)
theorem markR_length (l : List S41) : ∀ k, (markR l k).length = l.length := by
  induction l with
  | nil => intro k; rfl
  | cons x t ih => intro k; simp [markR, ih]
theorem markR_append (a b : List S41) : ∀ k, markR (a ++ b) k = markR a k ++ markR b (nextR a k) := by
  induction a with
  | nil => intro k; rfl
  | cons x t ih => intro k; simp [markR, nextR, ih]
theorem nextR_append (a b : List S41) : ∀ k, nextR (a ++ b) k = nextR b (nextR a k) := by
  induction a with
  | nil => intro k; rfl
  | cons x t ih => intro k; simp [nextR, ih]
/-- How many marks. -/
def bulkR (l : List S41) : Nat := (l.map fun r => 4 + r.f3.length + r.f5.length).sum
theorem nextR_eq (l : List S41) : ∀ k, nextR l k = k + bulkR l := by
  induction l with
  | nil => intro k; simp [nextR, bulkR]
  | cons x t ih => intro k; rw [nextR, ih]; simp [bulkR, next1]; omega
theorem bulkR_append (a b : List S41) : bulkR (a ++ b) = bulkR a + bulkR b := by simp [bulkR]
theorem bulkR_cons (x : S41) (t : List S41) : bulkR (x :: t) = 4 + x.f3.length + x.f5.length + bulkR t := by simp [bulkR]
theorem tm3 {n : Int} (h : 0 ≤ n) : Int.tmod n 3 = n % 3 := Int.tmod_eq_emod_of_nonneg h
theorem heldRec_loop (M d : Nat) : ∀ (pre l : List S41) (k : Int) (K : Nat), l.length = d → (∀ r ∈ l, r.f3.length ≤ M ∧ r.f5.length ≤ M) → d + M + 1 < K → 0 ≤ k → k + bulkR l ≤ 4611686018427387904 → (pre.length : Int) + d ≤ 4611686018427387904 →
    laws_heldRecordS.l0 K (pre ++ markR l k) k (pre.length : Int) = some (nextR l k) := by
  induction d with
  | zero =>
    intro pre l k K hl _ hK _ _ _
    obtain ⟨K, rfl⟩ : ∃ m, K = m + 1 := ⟨K - 1, by omega⟩
    obtain rfl := List.eq_nil_of_length_eq_zero hl
    simp [laws_heldRecordS.l0, markR, nextR]
  | succ d ih =>
    intro pre l k K hl hM hK hk hb hp
    obtain ⟨K, rfl⟩ : ∃ m, K = m + 1 := ⟨K - 1, by omega⟩
    cases l with
    | nil => simp at hl
    | cons x t =>
      rw [bulkR_cons] at hb
      have hMx := hM x List.mem_cons_self
      have hlt : (pre.length : Int) < ((pre ++ markR (x :: t) k).length : Int) := by simp [markR]; omega
      have hr : rd_T41 (pre ++ markR (x :: t) k) (pre.length : Int) = mark1 x k := by simp [rd_T41, markR]
      simp only [laws_heldRecordS.l0]
      rw [if_pos hlt, if_pos (by omega), hr]
      have e1 : wrap64 (k + 1) = k + 1 := w64 (by omega) (by omega)
      have e2 : wrap64 (k + 1 + 1) = k + 2 := by rw [w64 (by omega) (by omega)]; omega
      have e3 : wrap64 (k + 2 + 1) = k + 3 := by rw [w64 (by omega) (by omega)]; omega
      rw [e1, e2, e3]
      show (if k = k then _ else _) = _
      rw [if_pos rfl]
      show (if k + 1 = k + 1 then _ else _) = _
      rw [if_pos rfl, tm3 (by omega)]
      show (if (((k + 2) % 3 == 0) != ((k + 2) % 3 == 0)) = true then _ else _) = _
      rw [if_neg (by simp)]
      have h3 : laws_heldIntS.f K (mark1 x k).f3 (k + 3) = some (k + 3 + x.f3.length) := heldInt x.f3 (k + 3) K (by omega) (by omega) (by omega)
      rw [h3]
      simp only [Option.bind_some]
      rw [if_neg (by omega), tm3 (by omega)]
      show (if (((k + 3 + (x.f3.length : Int)) % 3 == 0) != ((k + 3 + (x.f3.length : Int)) % 3 == 0)) = true then _ else _) = _
      rw [if_neg (by simp)]
      have e4 : wrap64 (k + 3 + (x.f3.length : Int) + 1) = k + 4 + x.f3.length := by rw [w64 (by omega) (by omega)]; omega
      rw [e4]
      have h5 : laws_heldIntS.f K (mark1 x k).f5 (k + 4 + x.f3.length) = some (k + 4 + x.f3.length + x.f5.length) := heldInt x.f5 (k + 4 + x.f3.length) K (by omega) (by omega) (by omega)
      rw [h5]
      simp only [Option.bind_some]
      rw [if_neg (by omega)]
      have e5 : pre ++ markR (x :: t) k = (pre ++ [mark1 x k]) ++ markR t (next1 x k) := by simp [markR]
      have e6 : wrap64 ((pre.length : Int) + 1) = ((pre ++ [mark1 x k]).length : Int) := by rw [w64 (by omega) (by omega)]; simp
      rw [e5, e6]
      exact ih (pre ++ [mark1 x k]) t (next1 x k) K (by simpa using hl) (fun r hr => hM r (List.mem_cons_of_mem _ hr)) (by omega) (by unfold next1; omega) (by unfold next1; omega) (by simp; omega)
theorem heldRec (M : Nat) (l : List S41) (k : Int) (K : Nat) (hM : ∀ r ∈ l, r.f3.length ≤ M ∧ r.f5.length ≤ M) (hK : l.length + M + 1 < K) (hk : 0 ≤ k) (hb : k + bulkR l ≤ 4611686018427387904) (hl : l.length ≤ 4611686018427387904) : laws_heldRecordS.f K (markR l k) k = some (nextR l k) := by
  have h := heldRec_loop M l.length [] l k K rfl hM hK hk hb (by simp; omega)
  simpa [laws_heldRecordS.f] using h
end Go.Proofs.YtlhbclblehmdbaaDoor.PFnExactBatchCut
