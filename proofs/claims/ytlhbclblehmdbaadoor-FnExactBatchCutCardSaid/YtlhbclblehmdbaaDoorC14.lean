/- Both sides call the same rows valid, and the reference cuts as cutF does. -/
import Derived.Test.YtlhbclblehmdbaaDoorC12
import Derived.Test.YtlhbclblehmdbaaDoorC6
import Derived.Test.YtlhbclblehmdbaaDoorC7
set_option linter.unusedVariables false
set_option linter.unusedSimpArgs false
namespace Go.Proofs.YtlhbclblehmdbaaDoor.PFnExactBatchCut
open Go.RowKit Go.Proofs.YtlhbclblehmdbaaDoorW.PrintWords Go.Proofs.YtlhbclblehmdbaaDoorW.PrintLast Go.Proofs.YtlhbclblehmdbaaDoorW.PrintMore

def byteB (n : Int) : Bool := decide (0 ≤ n) && decide (n ≤ 255)
def bytesB (l : List Int) : Bool := l.all byteB
def partB (has : Bool) (l : List Int) : Bool := (has || l.length == 0) && (bytesB l && decide (l.length ≤ 12))
def inB (n : Int) : Bool := decide (0 ≤ n) && decide (n ≤ 99999)
def validB (r : S41) : Bool := inB r.f0 && (inB r.f1 && (partB r.f2 r.f3 && partB r.f4 r.f5))

theorem l6In (n a b : Int) : spec_l6In.f n a b = some (decide (a ≤ n) && decide (n ≤ b)) := by
  unfold spec_l6In.f
  by_cases h : n ≥ a
  · rw [if_pos h]; simp [show a ≤ n from h]
  · rw [if_neg h]; simp [show ¬ a ≤ n from h]
theorem within (n a b : Int) : impl_within.f n a b = some (decide (a ≤ n) && decide (n ≤ b)) := by
  unfold impl_within.f
  by_cases h : n ≥ a
  · rw [if_pos h]; simp [show a ≤ n from h]
  · rw [if_neg h]; simp [show ¬ a ≤ n from h]
theorem isByte (n : Int) : impl_isByte.f n = some (byteB n) := by
  unfold impl_isByte.f byteB
  by_cases h : n ≥ 0
  · rw [if_pos h]; simp [show 0 ≤ n from h]
  · rw [if_neg h]; simp [show ¬ 0 ≤ n from h]

theorem l1Ok_loop (l : List Int) (hl : l.length ≤ 9223372036854775807) (d : Nat) : ∀ (i : Int) (K : Nat), 0 ≤ i → (l.length : Int) - i = d → d < K → spec_l1Ok.l0 K l i = some (bytesB (l.drop i.toNat)) := by
  induction d with
  | zero =>
    intro i K h0 hd hK
    obtain ⟨K, rfl⟩ : ∃ m, K = m + 1 := ⟨K - 1, by omega⟩
    simp only [spec_l1Ok.l0]
    rw [if_neg (by omega), drop_end l i (by omega)]; rfl
  | succ d ih =>
    intro i K h0 hd hK
    obtain ⟨K, rfl⟩ : ∃ m, K = m + 1 := ⟨K - 1, by omega⟩
    have hlt : i < (l.length : Int) := by omega
    simp only [spec_l1Ok.l0]
    rw [if_pos hlt, if_pos h0, l6In, drop_gen l 0 i h0 hlt]
    simp only [Option.bind_some]
    have e : (decide (0 ≤ rd l i) && decide (rd l i ≤ 255)) = byteB (l.getD i.toNat 0) := rfl
    rw [e]
    by_cases c : byteB (l.getD i.toNat 0) = true
    · rw [if_pos c, step64 h0 hlt hl, ih (i + 1) K (by omega) (by omega) (by omega)]
      simp only [bytesB, List.all_cons]
      rw [c, Bool.true_and]
    · rw [if_neg c]
      simp only [bytesB, List.all_cons]
      rw [Bool.eq_false_iff.2 c, Bool.false_and]
theorem l1Ok (l : List Int) (K : Nat) (hl : l.length ≤ 9223372036854775807) (hK : l.length < K) : spec_l1Ok.f K l = some (bytesB l) := by
  have h := l1Ok_loop l hl l.length 0 K (by omega) (by omega) hK
  simpa [spec_l1Ok.f] using h
theorem allBytes_loop (l : List Int) (hl : l.length ≤ 9223372036854775807) (d : Nat) : ∀ (i : Int) (K : Nat), 0 ≤ i → (l.length : Int) - i = d → d < K → impl_allBytes.l0 K l (l.length : Int) i = some (bytesB (l.drop i.toNat)) := by
  induction d with
  | zero =>
    intro i K h0 hd hK
    obtain ⟨K, rfl⟩ : ∃ m, K = m + 1 := ⟨K - 1, by omega⟩
    simp only [impl_allBytes.l0]
    rw [if_neg (by omega), drop_end l i (by omega)]; rfl
  | succ d ih =>
    intro i K h0 hd hK
    obtain ⟨K, rfl⟩ : ∃ m, K = m + 1 := ⟨K - 1, by omega⟩
    have hlt : i < (l.length : Int) := by omega
    simp only [impl_allBytes.l0]
    rw [if_pos hlt, if_pos h0, if_pos hlt, isByte, drop_gen l 0 i h0 hlt]
    simp only [Option.bind_some]
    have e : byteB (rd l i) = byteB (l.getD i.toNat 0) := rfl
    rw [e]
    by_cases c : byteB (l.getD i.toNat 0) = true
    · rw [if_pos c, step64 h0 hlt hl, ih (i + 1) K (by omega) (by omega) (by omega)]
      simp only [bytesB, List.all_cons]
      rw [c, Bool.true_and]
    · rw [if_neg c]
      simp only [bytesB, List.all_cons]
      rw [Bool.eq_false_iff.2 c, Bool.false_and]
theorem allBytes (l : List Int) (K : Nat) (hl : l.length ≤ 9223372036854775807) (hK : l.length < K) : impl_allBytes.f K l = some (bytesB l) := by
  have h := allBytes_loop l hl l.length 0 K (by omega) (by omega) hK
  simpa [impl_allBytes.f] using h

theorem l3Part (has : Bool) (l : List Int) (K : Nat) (hl : l.length ≤ 9223372036854775807) (hK : l.length < K) : spec_l3Part.f K has l = some (partB has l) := by
  unfold spec_l3Part.f partB
  rw [l1Ok l K hl hK]
  simp only [Option.bind_some]
  have e : decide ((l.length : Int) ≤ 12) = decide (l.length ≤ 12) := decide_eq_decide.2 (by omega)
  rw [e]
  cases has with
  | true =>
    rw [if_pos rfl]
    cases bytesB l <;> simp
  | false =>
    rw [if_neg (by simp)]
    by_cases c : (l.length : Int) = 0
    · rw [if_pos c]
      have c' : (l.length == 0) = true := by simpa using (by omega : l.length = 0)
      rw [c']
      cases bytesB l <;> simp
    · rw [if_neg c]
      have c' : (l.length == 0) = false := by
        have : l.length ≠ 0 := fun h => c (by rw [h]; rfl)
        simpa using this
      rw [c']; rfl
theorem partValid (has : Bool) (l : List Int) (K : Nat) (hl : l.length ≤ 9223372036854775807) (hK : l.length < K) : impl_partValid.f K has l = some (partB has l) := by
  unfold impl_partValid.f partB
  cases has with
  | true =>
    rw [if_pos rfl]
    by_cases c : (l.length : Int) ≤ 12
    · rw [if_pos c, allBytes l K hl hK]
      have c' : decide (l.length ≤ 12) = true := decide_eq_true (by omega)
      rw [c']; simp
    · rw [if_neg c]
      have c' : decide (l.length ≤ 12) = false := decide_eq_false (by omega)
      rw [c']; simp
  | false =>
    rw [if_neg (by simp)]
    have e : ((l.length : Int) == 0) = (l.length == 0) := by
      rw [Bool.eq_iff_iff]; simp
    rw [e]
    by_cases c : l.length = 0
    · obtain rfl := List.eq_nil_of_length_eq_zero c
      simp [bytesB]
    · have c' : (l.length == 0) = false := by simpa using c
      rw [c']; rfl
theorem specValid (r : S41) (K : Nat) (h3 : r.f3.length ≤ 9223372036854775807) (h5 : r.f5.length ≤ 9223372036854775807) (hK : r.f3.length + r.f5.length < K) : spec_RecordValid.f K r.f0 r.f1 r.f2 r.f3 r.f4 r.f5 = some (validB r) := by
  unfold spec_RecordValid.f
  rw [l6In, l6In, l3Part _ _ K h3 (by omega), l3Part _ _ K h5 (by omega)]
  simp only [Option.bind_some]
  show (if inB r.f0 = true then (if inB r.f1 = true then (if partB r.f2 r.f3 = true then some (partB r.f4 r.f5) else some false) else some false) else some false) = some (validB r)
  unfold validB
  cases inB r.f0 <;> cases inB r.f1 <;> cases partB r.f2 r.f3 <;> simp
theorem implValid (r : S41) (K : Nat) (h3 : r.f3.length ≤ 9223372036854775807) (h5 : r.f5.length ≤ 9223372036854775807) (hK : r.f3.length + r.f5.length < K) : impl_RecordValid.f K r.f0 r.f1 r.f2 r.f3 r.f4 r.f5 = some (validB r) := by
  unfold impl_RecordValid.f impl_baseValid.f
  rw [within, within, partValid _ _ K h3 (by omega), partValid _ _ K h5 (by omega)]
  simp only [Option.bind_some]
  have e : (if (decide (0 ≤ r.f0) && decide (r.f0 ≤ 99999)) = true then some (decide (0 ≤ r.f1) && decide (r.f1 ≤ 99999)) else some false) = some (inB r.f0 && inB r.f1) := by
    show (if inB r.f0 = true then some (inB r.f1) else some false) = _
    cases inB r.f0 <;> simp
  rw [e]
  simp only [Option.bind_some]
  unfold validB
  cases inB r.f0 <;> cases inB r.f1 <;> cases partB r.f2 r.f3 <;> simp

theorem rd41_mem (l : List S41) (i : Int) (h0 : 0 ≤ i) (h1 : i < (l.length : Int)) : rd_T41 l i ∈ l := by
  have h : i.toNat < l.length := by omega
  rw [show rd_T41 l i = l[i.toNat] from by simp [rd_T41, List.getD_eq_getElem?_getD, List.getElem?_eq_getElem h]]
  exact List.getElem_mem _
theorem l12Copy (x : S41) (h3 : x.f3.length < 17592186044416) (h5 : x.f5.length < 17592186044416) : spec_l12Copy.f x.f0 x.f1 x.f2 x.f3 x.f4 x.f5 = some (x.f0, x.f1, x.f2, x.f3, x.f4, x.f5) := by
  unfold spec_l12Copy.f
  simp [h3, h5]
theorem rd41_get (l : List S41) (i : Int) (h0 : 0 ≤ i) (h1 : i < (l.length : Int)) : l[i.toNat]? = some (rd_T41 l i) := by
  have h : i.toNat < l.length := by omega
  simp [rd_T41, List.getD_eq_getElem?_getD, List.getElem?_eq_getElem h]

/-- The record at i is valid, and its offset is above that of the one ahead. -/
def chk (l : List S41) (i : Int) : Bool := validB (rd_T41 l i) && (decide (¬ i > 0) || decide (¬ (rd_T41 l (i - 1)).f0 ≥ (rd_T41 l i).f0))
def goodFrom (l : List S41) (i : Int) : Nat → Bool
  | 0 => true
  | d + 1 => chk l i && goodFrom l (i + 1) d
theorem goodFrom_chk (l : List S41) : ∀ (d : Nat) (i j : Int), goodFrom l i d = true → i ≤ j → j < i + d → chk l j = true := by
  intro d
  induction d with
  | zero => intro i j h h0 h1; omega
  | succ d ih =>
    intro i j h h0 h1
    simp only [goodFrom, Bool.and_eq_true] at h
    by_cases e : j = i
    · subst e; exact h.1
    · exact ih (i + 1) j h.2 (by omega) (by omega)
theorem l5_loop (M : Nat) (l : List S41) (hl : l.length ≤ 9223372036854775807) (hx : ∀ x ∈ l, x.f3.length ≤ M ∧ x.f5.length ≤ M) (hM : M ≤ 9223372036854775807) (d : Nat) : ∀ (i : Int) (K : Nat), 0 ≤ i → (l.length : Int) - i = d → d + M + M < K →
    spec_l5Records.l0 K l i = some (goodFrom l i d && (decide (1 ≤ (l.length : Int)) && decide ((l.length : Int) ≤ 6))) := by
  induction d with
  | zero =>
    intro i K h0 hd hK
    obtain ⟨K, rfl⟩ : ∃ m, K = m + 1 := ⟨K - 1, by omega⟩
    simp only [spec_l5Records.l0]
    rw [if_neg (by omega), l6In]
    simp [goodFrom]
  | succ d ih =>
    intro i K h0 hd hK
    obtain ⟨K, rfl⟩ : ∃ m, K = m + 1 := ⟨K - 1, by omega⟩
    have hlt : i < (l.length : Int) := by omega
    have hm := hx _ (rd41_mem l i h0 hlt)
    simp only [spec_l5Records.l0]
    rw [if_pos hlt, if_pos h0, specValid _ K (by omega) (by omega) (by omega)]
    simp only [Option.bind_some, goodFrom, chk]
    rw [step64 h0 hlt hl, ih (i + 1) K (by omega) (by omega) (by omega)]
    by_cases c : validB (rd_T41 l i) = true
    · rw [if_pos c, c, Bool.true_and]
      by_cases c1 : i > 0
      · have ew : wrap64 (i - 1) = i - 1 := w64 (by omega) (by omega)
        rw [if_pos c1, ew, if_pos (by omega), if_pos (by omega), decide_eq_false (by omega : ¬ ¬ i > 0), Bool.false_or]
        by_cases c2 : (rd_T41 l (i - 1)).f0 ≥ (rd_T41 l i).f0
        · rw [if_pos c2, decide_eq_false (by omega : ¬ ¬ (rd_T41 l (i - 1)).f0 ≥ (rd_T41 l i).f0)]; simp
        · rw [if_neg c2, decide_eq_true c2]; simp
      · rw [if_neg c1, decide_eq_true c1]; simp
    · rw [if_neg c, Bool.eq_false_iff.2 c]; simp
theorem imp_loop (M : Nat) (l : List S41) (hl : l.length ≤ 9223372036854775807) (hx : ∀ x ∈ l, x.f3.length ≤ M ∧ x.f5.length ≤ M) (hM : M ≤ 9223372036854775807) (b0 b1 : Bool) (n2 n3 n4 : Int) (d : Nat) : ∀ (i : Int) (K : Nat), 0 ≤ i → (l.length : Int) - i = d → d + M + M < K →
    impl_BatchValid.l0 K l (l.length : Int) i b0 b1 n2 n3 n4 l = some (goodFrom l i d) := by
  induction d with
  | zero =>
    intro i K h0 hd hK
    obtain ⟨K, rfl⟩ : ∃ m, K = m + 1 := ⟨K - 1, by omega⟩
    simp only [impl_BatchValid.l0]
    rw [if_neg (by omega)]; rfl
  | succ d ih =>
    intro i K h0 hd hK
    obtain ⟨K, rfl⟩ : ∃ m, K = m + 1 := ⟨K - 1, by omega⟩
    have hlt : i < (l.length : Int) := by omega
    have hm := hx _ (rd41_mem l i h0 hlt)
    simp only [impl_BatchValid.l0]
    rw [if_pos hlt, if_pos h0, if_pos hlt, implValid _ K (by omega) (by omega) (by omega)]
    simp only [Option.bind_some, goodFrom, chk]
    rw [step64 h0 hlt hl, ih (i + 1) K (by omega) (by omega) (by omega)]
    by_cases c : validB (rd_T41 l i) = true
    · rw [if_pos c, c, Bool.true_and]
      by_cases c1 : i > 0
      · have ew : wrap64 (i - 1) = i - 1 := w64 (by omega) (by omega)
        rw [if_pos c1, ew, if_pos (by omega), if_pos (by omega), decide_eq_false (by omega : ¬ ¬ i > 0), Bool.false_or]
        by_cases c2 : (rd_T41 l (i - 1)).f0 ≥ (rd_T41 l i).f0
        · rw [if_pos c2, decide_eq_false (by omega : ¬ ¬ (rd_T41 l (i - 1)).f0 ≥ (rd_T41 l i).f0)]; simp
        · rw [if_neg c2, decide_eq_true c2]; simp
      · rw [if_neg c1, decide_eq_true c1]; simp
    · rw [if_neg c, Bool.eq_false_iff.2 c]; simp

/-- A batch without a producer is valid. -/
def freeB (m : Bool) (ep sq : Int) (l : List S41) : Bool := (goodFrom l 0 l.length && (decide (1 ≤ (l.length : Int)) && decide ((l.length : Int) ≤ 6))) && (decide (ep = 0) && (decide (sq = 0) && !m))
theorem specBatch (M : Nat) (p m : Bool) (pr ep sq : Int) (l : List S41) (K : Nat) (hl : l.length ≤ 9223372036854775807) (hx : ∀ x ∈ l, x.f3.length ≤ M ∧ x.f5.length ≤ M) (hM : M ≤ 9223372036854775807) (hK : l.length + M + M + 1 < K) :
    ∃ v, spec_BatchValid.f K p m pr ep sq l = some v ∧ (pr = 255 → v = freeB m ep sq l) := by
  have h5 := l5_loop M l hl hx hM l.length 0 K (by omega) (by omega) (by omega)
  obtain ⟨K, rfl⟩ : ∃ k, K = k + 1 := ⟨K - 1, by omega⟩
  unfold spec_BatchValid.f spec_l5Records.f
  rw [h5, l6In, l6In, l6In]
  simp only [Option.bind_some, spec_BatchValid.j0]
  unfold freeB
  cases (goodFrom l 0 l.length && (decide (1 ≤ (l.length : Int)) && decide ((l.length : Int) ≤ 6)))
  · refine ⟨false, by simp, fun _ => by simp⟩
  · simp only [if_true]
    by_cases e : pr = 255
    · subst e
      by_cases e1 : ep = 0
      · subst e1
        by_cases e2 : sq = 0
        · subst e2; refine ⟨!m, by simp, fun _ => by simp⟩
        · refine ⟨false, ?_, fun _ => by simp [e2]⟩
          cases (decide (0 ≤ sq) && decide (sq ≤ 9999)) <;> simp [e2]
      · refine ⟨false, ?_, fun _ => by simp [e1]⟩
        cases (decide (0 ≤ ep) && decide (ep ≤ 99)) <;> cases (decide (0 ≤ sq) && decide (sq ≤ 9999)) <;> simp [e1]
    · simp only [if_neg e]
      cases (decide (0 ≤ pr) && decide (pr ≤ 255)) <;> cases (decide (0 ≤ ep) && decide (ep ≤ 99)) <;> cases (decide (0 ≤ sq) && decide (sq ≤ 9999)) <;> cases m <;> simp [e]
theorem implBatch (M : Nat) (p m : Bool) (pr ep sq : Int) (l : List S41) (K : Nat) (hl : l.length ≤ 9223372036854775807) (hx : ∀ x ∈ l, x.f3.length ≤ M ∧ x.f5.length ≤ M) (hM : M ≤ 9223372036854775807) (hK : l.length + M + M + 2 < K) :
    ∃ v, impl_BatchValid.f K p m pr ep sq l = some v ∧ (pr = 255 → v = freeB m ep sq l) := by
  obtain ⟨K, rfl⟩ : ∃ k, K = k + 2 := ⟨K - 2, by omega⟩
  have h5 := imp_loop M l hl hx hM p m pr ep sq l.length 0 K (by omega) (by omega) (by omega)
  have hj : ∃ v, impl_BatchValid.j0 (K + 2) p m pr ep sq l = some v ∧ (m = false → v = (goodFrom l 0 l.length && (decide (1 ≤ (l.length : Int)) && decide ((l.length : Int) ≤ 6)))) := by
    simp only [impl_BatchValid.j0, impl_BatchValid.j1, within, Option.bind_some, h5]
    cases (decide (1 ≤ (l.length : Int)) && decide ((l.length : Int) ≤ 6))
    · exact ⟨false, by simp, fun _ => by simp⟩
    · cases m
      · exact ⟨goodFrom l 0 l.length, by simp, fun _ => by simp⟩
      · cases ((l.length : Int) != 1)
        · exact ⟨goodFrom l 0 l.length, by simp, fun _ => by simp⟩
        · exact ⟨false, by simp, fun h => by simp at h⟩
  obtain ⟨v, hv, hv'⟩ := hj
  unfold impl_BatchValid.f impl_idValid.f
  simp only [within, hv]
  unfold freeB
  by_cases e : pr = 255
  · subst e
    rw [if_pos rfl]
    by_cases e1 : ep = 0
    · subst e1
      by_cases e2 : sq = 0
      · subst e2
        cases m
        · exact ⟨v, by simp, fun _ => by rw [hv' rfl]; simp⟩
        · exact ⟨false, by simp, fun _ => by simp⟩
      · exact ⟨false, by simp [e2], fun _ => by simp [e2]⟩
    · exact ⟨false, by simp [e1], fun _ => by simp [e1]⟩
  · rw [if_neg e]
    simp only [Option.bind_some]
    cases (decide (0 ≤ pr) && decide (pr ≤ 254)) <;> cases (decide (0 ≤ ep) && decide (ep ≤ 99)) <;> cases (decide (0 ≤ sq) && decide (sq ≤ 9999)) <;> exact ⟨_, by simp; rfl, fun h => absurd h e⟩

end Go.Proofs.YtlhbclblehmdbaaDoor.PFnExactBatchCut
