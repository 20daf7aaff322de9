/- What the reference's BatchCut answers, in plain Lean. -/
import Derived.Test.YtlhbclblehmdbaaDoorC14
set_option linter.unusedVariables false
set_option linter.unusedSimpArgs false
namespace Go.Proofs.YtlhbclblehmdbaaDoor.PFnExactBatchCut
open Go.RowKit Go.Proofs.YtlhbclblehmdbaaDoorW.PrintWords Go.Proofs.YtlhbclblehmdbaaDoorW.PrintLast Go.Proofs.YtlhbclblehmdbaaDoorW.PrintMore

theorem free_loop (M : Nat) (l : List S41) (hl : l.length ≤ 1000) (hx : ∀ x ∈ l, x.f3.length ≤ M ∧ x.f5.length ≤ M) (hM : M ≤ 1048576) (p m : Bool) (pr ep sq : Int) (d : Nat) : ∀ (i : Int) (acc : List S41) (K : Nat), 0 ≤ i → (l.length : Int) - i = d → d < K → acc.length + d ≤ 10000 →
    spec_l31Free.l0 K l i p m pr ep sq acc = some (p, m, pr, ep, sq, acc ++ l.drop i.toNat) := by
  induction d with
  | zero =>
    intro i acc K h0 hd hK ha
    obtain ⟨K, rfl⟩ : ∃ m, K = m + 1 := ⟨K - 1, by omega⟩
    simp only [spec_l31Free.l0]
    rw [if_neg (by omega), drop_end l i (by omega)]; simp
  | succ d ih =>
    intro i acc K h0 hd hK ha
    obtain ⟨K, rfl⟩ : ∃ m, K = m + 1 := ⟨K - 1, by omega⟩
    have hlt : i < (l.length : Int) := by omega
    have hm := hx _ (rd41_mem l i h0 hlt)
    simp only [spec_l31Free.l0]
    rw [if_pos hlt, if_pos h0, l12Copy _ (by omega) (by omega)]
    simp only [Option.bind_some]
    rw [if_pos (by omega), step64 h0 hlt (by omega), ih (i + 1) _ K (by omega) (by omega) (by omega) (by simp; omega), drop_gen l z41 i h0 hlt]
    have e : rd_T41 l i = l.getD i.toNat z41 := rfl
    rw [e]
    simp
theorem l31Free (M : Nat) (l : List S41) (p : Bool) (K : Nat) (hl : l.length ≤ 1000) (hx : ∀ x ∈ l, x.f3.length ≤ M ∧ x.f5.length ≤ M) (hM : M ≤ 1048576) (hK : l.length < K) : spec_l31Free.f K p l = some (p, false, 255, 0, 0, l) := by
  unfold spec_l31Free.f
  rw [free_loop M l hl hx hM p false 255 0 0 l.length 0 [] K (by omega) (by omega) hK (by simp; omega)]
  simp

def lo (off : Int) (l : List S41) : List S41 := l.filter (fun x => decide (x.f0 < off))
def hi (off : Int) (l : List S41) : List S41 := l.filter (fun x => !decide (x.f0 < off))
/-- What BatchCut returns. -/
def cutR (p ok : Bool) (A B : List S41) : Bool × Bool × Int × Int × Int × (List (S41)) × Bool × Bool × Int × Int × Int × (List (S41)) × Bool :=
  if (ok && !A.isEmpty && !B.isEmpty) = true then (p, false, 255, 0, 0, A, p, false, 255, 0, 0, B, true) else (false, false, 0, 0, 0, [], false, false, 0, 0, 0, [], false)

theorem split_at {off : Int} {l : List S41} {i : Nat} (h1 : ∀ x ∈ l.take i, x.f0 < off) (h2 : ∀ x ∈ l.drop i, ¬ x.f0 < off) : lo off l = l.take i ∧ hi off l = l.drop i := by
  have a1 : (l.take i).filter (fun x => decide (x.f0 < off)) = l.take i := List.filter_eq_self.2 (fun x hx => decide_eq_true (h1 x hx))
  have a2 : (l.drop i).filter (fun x => decide (x.f0 < off)) = [] := List.filter_eq_nil_iff.2 (fun x hx => by simpa using h2 x hx)
  have b1 : (l.take i).filter (fun x => !decide (x.f0 < off)) = [] := List.filter_eq_nil_iff.2 (fun x hx => by simpa using h1 x hx)
  have b2 : (l.drop i).filter (fun x => !decide (x.f0 < off)) = l.drop i := List.filter_eq_self.2 (fun x hx => by simpa using h2 x hx)
  constructor
  · calc lo off l = lo off (l.take i ++ l.drop i) := by rw [List.take_append_drop]
      _ = l.take i := by unfold lo; rw [List.filter_append, a1, a2, List.append_nil]
  · calc hi off l = hi off (l.take i ++ l.drop i) := by rw [List.take_append_drop]
      _ = l.drop i := by unfold hi; rw [List.filter_append, b1, b2, List.nil_append]

theorem asc_le {l : List S41} (ha : ∀ j : Int, 0 < j → j < l.length → (rd_T41 l (j - 1)).f0 < (rd_T41 l j).f0) (i : Int) (h0 : 0 ≤ i) : ∀ n : Nat, i + n < l.length → (rd_T41 l i).f0 ≤ (rd_T41 l (i + n)).f0 := by
  intro n
  induction n with
  | zero => intro _; simp
  | succ n ih =>
    intro h
    have h1 := ih (by omega)
    have h2 := ha (i + (n + 1 : Nat)) (by omega) (by omega)
    rw [show i + ((n + 1 : Nat) : Int) - 1 = i + n by omega] at h2
    omega
theorem asc_drop {l : List S41} (ha : ∀ j : Int, 0 < j → j < l.length → (rd_T41 l (j - 1)).f0 < (rd_T41 l j).f0) (off i : Int) (h0 : 0 ≤ i) (h : ¬ (rd_T41 l i).f0 < off) : ∀ x ∈ l.drop i.toNat, ¬ x.f0 < off := by
  intro x hx
  obtain ⟨n, hn, rfl⟩ := List.mem_iff_getElem.1 hx
  have hn' : i.toNat + n < l.length := by simp at hn; omega
  have h1 := asc_le ha i h0 n (by omega)
  have e : (l.drop i.toNat)[n] = rd_T41 l (i + n) := by
    have : (i + (n : Int)).toNat = i.toNat + n := by omega
    simp [rd_T41, this, List.getElem_drop, List.getD_eq_getElem?_getD, List.getElem?_eq_getElem hn']
  rw [e]; omega

theorem cut_loop (M : Nat) (l : List S41) (hl : l.length ≤ 1000) (hx : ∀ x ∈ l, x.f3.length ≤ M ∧ x.f5.length ≤ M) (hM : M ≤ 1048576) (ha : ∀ j : Int, 0 < j → j < l.length → (rd_T41 l (j - 1)).f0 < (rd_T41 l j).f0) (off : Int) (p m : Bool) (pr ep sq : Int) (d : Nat) : ∀ (i : Int) (K : Nat), 0 ≤ i → (l.length : Int) - i = d → (∀ x ∈ l.take i.toNat, x.f0 < off) → d + l.length + 4 < K →
    spec_BatchCut.l0 K off i p m pr ep sq l = some (cutR p true (lo off l) (hi off l)) := by
  induction d with
  | zero =>
    intro i K h0 hd ht hK
    obtain ⟨K, rfl⟩ : ∃ m, K = m + 3 := ⟨K - 3, by omega⟩
    simp only [spec_BatchCut.l0, spec_BatchCut.j2, spec_BatchCut.j3]
    obtain ⟨e1, e2⟩ := split_at (i := i.toNat) ht (by rw [drop_end l i (by omega)]; simp)
    rw [e1, e2, drop_end l i (by omega), if_neg (by omega)]
    have e : (i == (l.length : Int)) = true := by simp; omega
    rw [e]
    simp [cutR]
  | succ d ih =>
    intro i K h0 hd ht hK
    have hlt : i < (l.length : Int) := by omega
    by_cases c : (rd_T41 l i).f0 < off
    · obtain ⟨K, rfl⟩ : ∃ m, K = m + 1 := ⟨K - 1, by omega⟩
      simp only [spec_BatchCut.l0]
      rw [if_pos hlt, if_pos h0, if_pos c, step64 h0 hlt (by omega)]
      refine ih (i + 1) K (by omega) (by omega) ?_ (by omega)
      intro x hx'
      rw [take_gen l z41 i h0 hlt] at hx'
      rcases List.mem_append.1 hx' with h | h
      · exact ht x h
      · simp at h; subst h; exact c
    · obtain ⟨K, rfl⟩ : ∃ m, K = m + 3 := ⟨K - 3, by omega⟩
      obtain ⟨e1, e2⟩ := split_at (i := i.toNat) ht (asc_drop ha off i h0 c)
      simp only [spec_BatchCut.l0, spec_BatchCut.j2, spec_BatchCut.j3]
      rw [if_pos hlt, if_pos h0, if_neg c, e1, e2]
      by_cases c0 : i = 0
      · subst c0
        simp [cutR]
      · rw [if_neg c0]
        have e : (i == (l.length : Int)) = false := by simp; omega
        rw [e, if_neg (by simp), if_pos h0, if_pos (by omega)]
        rw [l31Free M _ p K (by simp; omega) (fun x h => hx x (List.mem_of_mem_take h)) hM (by simp; omega)]
        simp only [Option.bind_some]
        rw [l31Free M _ p K (by simp; omega) (fun x h => hx x (List.mem_of_mem_drop h)) hM (by simp; omega)]
        simp only [Option.bind_some]
        have n1 : (l.take i.toNat).isEmpty = false := by rw [List.isEmpty_eq_false_iff]; intro h; have := congrArg List.length h; rw [List.length_take] at this; simp only [List.length_nil] at this; omega
        have n2 : (l.drop i.toNat).isEmpty = false := by rw [List.isEmpty_eq_false_iff]; intro h; have := congrArg List.length h; rw [List.length_drop] at this; simp only [List.length_nil] at this; omega
        simp [cutR, n1, n2]

theorem free_asc {m : Bool} {ep sq : Int} {l : List S41} (h : freeB m ep sq l = true) : l.length ≤ 6 ∧ ∀ j : Int, 0 < j → j < l.length → (rd_T41 l (j - 1)).f0 < (rd_T41 l j).f0 := by
  simp only [freeB, Bool.and_eq_true, decide_eq_true_eq] at h
  refine ⟨by omega, fun j h0 h1 => ?_⟩
  have := goodFrom_chk l l.length 0 j h.1.1 (by omega) (by omega)
  simp only [chk, Bool.and_eq_true, Bool.or_eq_true, decide_eq_true_eq] at this
  omega
def cutB (m : Bool) (pr ep sq : Int) (l : List S41) : Bool := decide (pr = 255) && freeB m ep sq l
theorem specCut (M : Nat) (p m : Bool) (pr ep sq : Int) (l : List S41) (off : Int) (K : Nat) (hl : l.length ≤ 1048576) (hx : ∀ x ∈ l, x.f3.length ≤ M ∧ x.f5.length ≤ M) (hM : M ≤ 1048576) (hK : l.length + l.length + M + M + 9 < K) :
    spec_BatchCut.f K p m pr ep sq l off = some (cutR p (cutB m pr ep sq l) (lo off l) (hi off l)) := by
  obtain ⟨v, hv, hv'⟩ := specBatch M p m pr ep sq l K (by omega) hx (by omega) (by omega)
  unfold spec_BatchCut.f
  rw [hv]
  obtain ⟨K, rfl⟩ : ∃ k, K = k + 1 := ⟨K - 1, by omega⟩
  simp only [Option.bind_some, spec_BatchCut.j0]
  cases v with
  | false =>
    have : cutB m pr ep sq l = false := by
      unfold cutB
      by_cases e : pr = 255
      · rw [← hv' e]; simp
      · simp [e]
    rw [this]; simp [cutR]
  | true =>
    by_cases e : pr = 255
    · have hf := (hv' e).symm
      have : cutB m pr ep sq l = true := by unfold cutB; rw [hf]; simp [e]
      obtain ⟨h6, ha⟩ := free_asc hf
      have hne : (pr != 255) = false := by simp [e]
      rw [this, if_pos rfl, hne, if_neg (by simp)]
      exact cut_loop M l (by omega) hx hM ha off p m pr ep sq l.length 0 K (by omega) (by omega) (by simp) (by omega)
    · have hne : (pr != 255) = true := by simp [e]
      have : cutB m pr ep sq l = false := by unfold cutB; simp [e]
      rw [this, hne]; simp [cutR]
end Go.Proofs.YtlhbclblehmdbaaDoor.PFnExactBatchCut
