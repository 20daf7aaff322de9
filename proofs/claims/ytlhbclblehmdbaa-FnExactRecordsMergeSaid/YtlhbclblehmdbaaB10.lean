/- Both sides call the same rows valid, and the reference merges as mergeF does. -/
import Derived.Test.YtlhbclblehmdbaaB9
import Derived.Test.YtlhbclblehmdbaaB5
set_option linter.unusedVariables false
set_option linter.unusedSimpArgs false
namespace Go.Proofs.Ytlhbclblehmdbaa.PFnExactRecordsMerge
open Go.RowKit Go.Proofs.YtlhbclblehmdbaaW.PrintWords Go.Proofs.YtlhbclblehmdbaaW.PrintLast Go.Proofs.YtlhbclblehmdbaaW.PrintMore

def byteB (n : Int) : Bool := decide (0 ≤ n) && decide (n ≤ 255)
def bytesB (l : List Int) : Bool := l.all byteB
def partB (has : Bool) (l : List Int) : Bool := (has || l.length == 0) && (bytesB l && decide (l.length ≤ 12))
def inB (n : Int) : Bool := decide (0 ≤ n) && decide (n ≤ 99999)
def validB (r : S58) : Bool := inB r.f0 && (inB r.f1 && (partB r.f2 r.f3 && partB r.f4 r.f5))
def rowB (l : List S58) : Bool := l.all validB && decide (l.length ≤ 30)

theorem l6In (n a b : Int) : spec_l6In.f n a b = some (decide (a ≤ n) && decide (n ≤ b)) := by
  unfold spec_l6In.f
  by_cases h : n ≥ a
  · rw [if_pos h]; simp [show a ≤ n from h]
  · rw [if_neg h]; simp [show ¬ a ≤ n from h]
theorem within (n a b : Int) : impl_within.f n a b = some (decide (a ≤ n) && decide (n ≤ b)) := by
  unfold impl_within.f
  by_cases h : n ≥ a
  · rw [if_pos h]; simp [show a ≤ n from h]
  · rw [if_neg h]; simp [show ¬ a ≤ n from h]
theorem isByte (n : Int) : impl_isByte.f n = some (byteB n) := by
  unfold impl_isByte.f byteB
  by_cases h : n ≥ 0
  · rw [if_pos h]; simp [show 0 ≤ n from h]
  · rw [if_neg h]; simp [show ¬ 0 ≤ n from h]

theorem l1Ok_loop (l : List Int) (hl : l.length ≤ 9223372036854775807) (d : Nat) : ∀ (i : Int) (K : Nat), 0 ≤ i → (l.length : Int) - i = d → d < K → spec_l1Ok.l0 K l i = some (bytesB (l.drop i.toNat)) := by
  induction d with
  | zero =>
    intro i K h0 hd hK
    obtain ⟨K, rfl⟩ : ∃ m, K = m + 1 := ⟨K - 1, by omega⟩
    simp only [spec_l1Ok.l0]
    rw [if_neg (by omega), drop_end l i (by omega)]; rfl
  | succ d ih =>
    intro i K h0 hd hK
    obtain ⟨K, rfl⟩ : ∃ m, K = m + 1 := ⟨K - 1, by omega⟩
    have hlt : i < (l.length : Int) := by omega
    simp only [spec_l1Ok.l0]
    rw [if_pos hlt, if_pos h0, l6In, drop_gen l 0 i h0 hlt]
    simp only [Option.bind_some]
    have e : (decide (0 ≤ rd l i) && decide (rd l i ≤ 255)) = byteB (l.getD i.toNat 0) := rfl
    rw [e]
    by_cases c : byteB (l.getD i.toNat 0) = true
    · rw [if_pos c, step64 h0 hlt hl, ih (i + 1) K (by omega) (by omega) (by omega)]
      simp only [bytesB, List.all_cons]
      rw [c, Bool.true_and]
    · rw [if_neg c]
      simp only [bytesB, List.all_cons]
      rw [Bool.eq_false_iff.2 c, Bool.false_and]
theorem l1Ok (l : List Int) (K : Nat) (hl : l.length ≤ 9223372036854775807) (hK : l.length < K) : spec_l1Ok.f K l = some (bytesB l) := by
  have h := l1Ok_loop l hl l.length 0 K (by omega) (by omega) hK
  simpa [spec_l1Ok.f] using h
theorem allBytes_loop (l : List Int) (hl : l.length ≤ 9223372036854775807) (d : Nat) : ∀ (i : Int) (K : Nat), 0 ≤ i → (l.length : Int) - i = d → d < K → impl_allBytes.l0 K l (l.length : Int) i = some (bytesB (l.drop i.toNat)) := by
  induction d with
  | zero =>
    intro i K h0 hd hK
    obtain ⟨K, rfl⟩ : ∃ m, K = m + 1 := ⟨K - 1, by omega⟩
    simp only [impl_allBytes.l0]
    rw [if_neg (by omega), drop_end l i (by omega)]; rfl
  | succ d ih =>
    intro i K h0 hd hK
    obtain ⟨K, rfl⟩ : ∃ m, K = m + 1 := ⟨K - 1, by omega⟩
    have hlt : i < (l.length : Int) := by omega
    simp only [impl_allBytes.l0]
    rw [if_pos hlt, if_pos h0, if_pos hlt, isByte, drop_gen l 0 i h0 hlt]
    simp only [Option.bind_some]
    have e : byteB (rd l i) = byteB (l.getD i.toNat 0) := rfl
    rw [e]
    by_cases c : byteB (l.getD i.toNat 0) = true
    · rw [if_pos c, step64 h0 hlt hl, ih (i + 1) K (by omega) (by omega) (by omega)]
      simp only [bytesB, List.all_cons]
      rw [c, Bool.true_and]
    · rw [if_neg c]
      simp only [bytesB, List.all_cons]
      rw [Bool.eq_false_iff.2 c, Bool.false_and]
theorem allBytes (l : List Int) (K : Nat) (hl : l.length ≤ 9223372036854775807) (hK : l.length < K) : impl_allBytes.f K l = some (bytesB l) := by
  have h := allBytes_loop l hl l.length 0 K (by omega) (by omega) hK
  simpa [impl_allBytes.f] using h

theorem l3Part (has : Bool) (l : List Int) (K : Nat) (hl : l.length ≤ 9223372036854775807) (hK : l.length < K) : spec_l3Part.f K has l = some (partB has l) := by
  unfold spec_l3Part.f partB
  rw [l1Ok l K hl hK]
  simp only [Option.bind_some]
  have e : decide ((l.length : Int) ≤ 12) = decide (l.length ≤ 12) := decide_eq_decide.2 (by omega)
  rw [e]
  cases has with
  | true =>
    rw [if_pos rfl]
    cases bytesB l <;> simp
  | false =>
    rw [if_neg (by simp)]
    by_cases c : (l.length : Int) = 0
    · rw [if_pos c]
      have c' : (l.length == 0) = true := by simpa using (by omega : l.length = 0)
      rw [c']
      cases bytesB l <;> simp
    · rw [if_neg c]
      have c' : (l.length == 0) = false := by
        have : l.length ≠ 0 := fun h => c (by rw [h]; rfl)
        simpa using this
      rw [c']; rfl
theorem partValid (has : Bool) (l : List Int) (K : Nat) (hl : l.length ≤ 9223372036854775807) (hK : l.length < K) : impl_partValid.f K has l = some (partB has l) := by
  unfold impl_partValid.f partB
  cases has with
  | true =>
    rw [if_pos rfl]
    by_cases c : (l.length : Int) ≤ 12
    · rw [if_pos c, allBytes l K hl hK]
      have c' : decide (l.length ≤ 12) = true := decide_eq_true (by omega)
      rw [c']; simp
    · rw [if_neg c]
      have c' : decide (l.length ≤ 12) = false := decide_eq_false (by omega)
      rw [c']; simp
  | false =>
    rw [if_neg (by simp)]
    have e : ((l.length : Int) == 0) = (l.length == 0) := by
      rw [Bool.eq_iff_iff]; simp
    rw [e]
    by_cases c : l.length = 0
    · obtain rfl := List.eq_nil_of_length_eq_zero c
      simp [bytesB]
    · have c' : (l.length == 0) = false := by simpa using c
      rw [c']; rfl
theorem specValid (r : S58) (K : Nat) (h3 : r.f3.length ≤ 9223372036854775807) (h5 : r.f5.length ≤ 9223372036854775807) (hK : r.f3.length + r.f5.length < K) : spec_RecordValid.f K r.f0 r.f1 r.f2 r.f3 r.f4 r.f5 = some (validB r) := by
  unfold spec_RecordValid.f
  rw [l6In, l6In, l3Part _ _ K h3 (by omega), l3Part _ _ K h5 (by omega)]
  simp only [Option.bind_some]
  show (if inB r.f0 = true then (if inB r.f1 = true then (if partB r.f2 r.f3 = true then some (partB r.f4 r.f5) else some false) else some false) else some false) = some (validB r)
  unfold validB
  cases inB r.f0 <;> cases inB r.f1 <;> cases partB r.f2 r.f3 <;> simp
theorem implValid (r : S58) (K : Nat) (h3 : r.f3.length ≤ 9223372036854775807) (h5 : r.f5.length ≤ 9223372036854775807) (hK : r.f3.length + r.f5.length < K) : impl_RecordValid.f K r.f0 r.f1 r.f2 r.f3 r.f4 r.f5 = some (validB r) := by
  unfold impl_RecordValid.f impl_baseValid.f
  rw [within, within, partValid _ _ K h3 (by omega), partValid _ _ K h5 (by omega)]
  simp only [Option.bind_some]
  have e : (if (decide (0 ≤ r.f0) && decide (r.f0 ≤ 99999)) = true then some (decide (0 ≤ r.f1) && decide (r.f1 ≤ 99999)) else some false) = some (inB r.f0 && inB r.f1) := by
    show (if inB r.f0 = true then some (inB r.f1) else some false) = _
    cases inB r.f0 <;> simp
  rw [e]
  simp only [Option.bind_some]
  unfold validB
  cases inB r.f0 <;> cases inB r.f1 <;> cases partB r.f2 r.f3 <;> simp

theorem rd58_mem (l : List S58) (i : Int) (h0 : 0 ≤ i) (h1 : i < (l.length : Int)) : rd_T58 l i ∈ l := by
  have h : i.toNat < l.length := by omega
  rw [show rd_T58 l i = l[i.toNat] from by simp [rd_T58, List.getD_eq_getElem?_getD, List.getElem?_eq_getElem h]]
  exact List.getElem_mem _
theorem l42_loop (M : Nat) (l : List S58) (hl : l.length ≤ 9223372036854775807) (hx : ∀ x ∈ l, x.f3.length ≤ M ∧ x.f5.length ≤ M) (hM : M ≤ 9223372036854775807) (d : Nat) : ∀ (i : Int) (K : Nat), 0 ≤ i → (l.length : Int) - i = d → d + M + M < K →
    spec_l42Rows.l0 K l i = some ((l.drop i.toNat).all validB && decide (l.length ≤ 30)) := by
  induction d with
  | zero =>
    intro i K h0 hd hK
    obtain ⟨K, rfl⟩ : ∃ m, K = m + 1 := ⟨K - 1, by omega⟩
    simp only [spec_l42Rows.l0]
    rw [if_neg (by omega), drop_end l i (by omega)]
    have e : decide ((l.length : Int) ≤ 30) = decide (l.length ≤ 30) := decide_eq_decide.2 (by omega)
    rw [e]; simp
  | succ d ih =>
    intro i K h0 hd hK
    obtain ⟨K, rfl⟩ : ∃ m, K = m + 1 := ⟨K - 1, by omega⟩
    have hlt : i < (l.length : Int) := by omega
    have hm := hx _ (rd58_mem l i h0 hlt)
    simp only [spec_l42Rows.l0]
    rw [if_pos hlt, if_pos h0, specValid _ K (by omega) (by omega) (by omega), drop_gen l z58 i h0 hlt]
    simp only [Option.bind_some]
    have e : validB (rd_T58 l i) = validB (l.getD i.toNat z58) := rfl
    rw [e]
    by_cases c : validB (l.getD i.toNat z58) = true
    · rw [if_pos c, step64 h0 hlt hl, ih (i + 1) K (by omega) (by omega) (by omega)]
      simp only [List.all_cons]
      rw [c, Bool.true_and]
    · rw [if_neg c]
      simp only [List.all_cons]
      rw [Bool.eq_false_iff.2 c]; simp
theorem l42Rows (M : Nat) (l : List S58) (K : Nat) (hl : l.length ≤ 9223372036854775807) (hx : ∀ x ∈ l, x.f3.length ≤ M ∧ x.f5.length ≤ M) (hM : M ≤ 9223372036854775807) (hK : l.length + M + M < K) : spec_l42Rows.f K l = some (rowB l) := by
  have h := l42_loop M l hl hx hM l.length 0 K (by omega) (by omega) hK
  simpa [spec_l42Rows.f, rowB] using h
theorem rowV_loop (M : Nat) (l : List S58) (hl : l.length ≤ 9223372036854775807) (hx : ∀ x ∈ l, x.f3.length ≤ M ∧ x.f5.length ≤ M) (hM : M ≤ 9223372036854775807) (d : Nat) : ∀ (i : Int) (K : Nat), 0 ≤ i → (l.length : Int) - i = d → d + M + M < K →
    impl_rowValid.l0 K l (l.length : Int) i = some ((l.drop i.toNat).all validB) := by
  induction d with
  | zero =>
    intro i K h0 hd hK
    obtain ⟨K, rfl⟩ : ∃ m, K = m + 1 := ⟨K - 1, by omega⟩
    simp only [impl_rowValid.l0]
    rw [if_neg (by omega), drop_end l i (by omega)]; rfl
  | succ d ih =>
    intro i K h0 hd hK
    obtain ⟨K, rfl⟩ : ∃ m, K = m + 1 := ⟨K - 1, by omega⟩
    have hlt : i < (l.length : Int) := by omega
    have hm := hx _ (rd58_mem l i h0 hlt)
    simp only [impl_rowValid.l0]
    rw [if_pos hlt, if_pos h0, if_pos hlt, implValid _ K (by omega) (by omega) (by omega), drop_gen l z58 i h0 hlt]
    simp only [Option.bind_some]
    have e : validB (rd_T58 l i) = validB (l.getD i.toNat z58) := rfl
    rw [e]
    by_cases c : validB (l.getD i.toNat z58) = true
    · rw [if_pos c, step64 h0 hlt hl, ih (i + 1) K (by omega) (by omega) (by omega)]
      simp only [List.all_cons]
      rw [c, Bool.true_and]
    · rw [if_neg c]
      simp only [List.all_cons]
      rw [Bool.eq_false_iff.2 c]; simp
theorem rowV (M : Nat) (l : List S58) (K : Nat) (hl : l.length ≤ 9223372036854775807) (hx : ∀ x ∈ l, x.f3.length ≤ M ∧ x.f5.length ≤ M) (hM : M ≤ 9223372036854775807) (hK : l.length + M + M < K) : impl_rowValid.f K l = some (rowB l) := by
  unfold impl_rowValid.f rowB
  by_cases c : (l.length : Int) > 30
  · rw [if_pos c, decide_eq_false (by omega), Bool.and_false]
  · rw [if_neg c, decide_eq_true (by omega), Bool.and_true]
    have h := rowV_loop M l hl hx hM l.length 0 K (by omega) (by omega) hK
    simpa using h

theorem l12Copy (x : S58) (h3 : x.f3.length < 17592186044416) (h5 : x.f5.length < 17592186044416) : spec_l12Copy.f x.f0 x.f1 x.f2 x.f3 x.f4 x.f5 = some (x.f0, x.f1, x.f2, x.f3, x.f4, x.f5) := by
  unfold spec_l12Copy.f
  simp [h3, h5]
theorem rd58_get (l : List S58) (i : Int) (h0 : 0 ≤ i) (h1 : i < (l.length : Int)) : l[i.toNat]? = some (rd_T58 l i) := by
  have h : i.toNat < l.length := by omega
  simp [rd_T58, List.getD_eq_getElem?_getD, List.getElem?_eq_getElem h]
theorem specMerge_loop (a b : List S58) (ha : a.length ≤ 30) (hb : b.length ≤ 30) (hxa : ∀ x ∈ a, x.f3.length < 17592186044416 ∧ x.f5.length < 17592186044416) (hxb : ∀ x ∈ b, x.f3.length < 17592186044416 ∧ x.f5.length < 17592186044416) (d : Nat) :
    ∀ (i j : Int) (out : List S58) (K : Nat), 0 ≤ i → 0 ≤ j → i ≤ a.length → j ≤ b.length → ((a.length : Int) - i) + ((b.length : Int) - j) = d → 3 * d + 2 < K → out.length + d ≤ 60 →
    spec_RecordsMerge.l0 K a b out i j = some (out ++ mergeF (a.drop i.toNat) (b.drop j.toNat), true) := by
  induction d with
  | zero =>
    intro i j out K h0 h1 h2 h3 hd hK ho
    obtain ⟨K, rfl⟩ : ∃ m, K = m + 2 := ⟨K - 2, by omega⟩
    simp only [spec_RecordsMerge.l0]
    rw [if_neg (by omega), decide_eq_false (by omega)]
    simp only [spec_RecordsMerge.j2]
    rw [if_neg (by simp), merge_end (by omega) (by omega), List.append_nil]
  | succ d ih =>
    intro i j out K h0 h1 h2 h3 hd hK ho
    obtain ⟨K, rfl⟩ : ∃ m, K = m + 3 := ⟨K - 3, by omega⟩
    have adva : ∀ (hi : i < (a.length : Int)) (hc : b[j.toNat]? = none ∨ ∃ y, b[j.toNat]? = some y ∧ (rd_T58 a i).f1 ≤ y.f1), spec_RecordsMerge.j3 (K + 1) a b out i j true = some (out ++ mergeF (a.drop i.toNat) (b.drop j.toNat), true) := by
      intro hi hc
      have hm := hxa _ (rd58_mem a i h0 hi)
      simp only [spec_RecordsMerge.j3]
      rw [if_pos trivial, if_pos h0, if_pos hi, l12Copy _ hm.1 hm.2]
      simp only [Option.bind_some]
      rw [if_pos (by omega), step64 h0 hi (by omega)]
      rw [ih (i + 1) j _ K (by omega) h1 (by omega) h3 (by omega) (by omega) (by simp; omega)]
      rw [merge_a (rd58_get a i h0 hi) hc, show (i + 1).toNat = i.toNat + 1 from by omega]
      simp
    have advb : ∀ (hj : j < (b.length : Int)) (hc : a[i.toNat]? = none ∨ ∃ x, a[i.toNat]? = some x ∧ ¬ x.f1 ≤ (rd_T58 b j).f1), spec_RecordsMerge.j3 (K + 1) a b out i j false = some (out ++ mergeF (a.drop i.toNat) (b.drop j.toNat), true) := by
      intro hj hc
      have hm := hxb _ (rd58_mem b j h1 hj)
      simp only [spec_RecordsMerge.j3]
      rw [if_neg (by simp), if_pos h1, if_pos hj, l12Copy _ hm.1 hm.2]
      simp only [Option.bind_some]
      rw [if_pos (by omega), step64 h1 hj (by omega)]
      rw [ih i (j + 1) _ K h0 (by omega) h2 (by omega) (by omega) (by omega) (by simp; omega)]
      rw [merge_b (rd58_get b j h1 hj) hc, show (j + 1).toNat = j.toNat + 1 from by omega]
      simp
    have hj2 : spec_RecordsMerge.j2 (K + 2) a b out i j true = some (out ++ mergeF (a.drop i.toNat) (b.drop j.toNat), true) := by
      simp only [spec_RecordsMerge.j2]
      rw [if_pos trivial]
      by_cases cj : j = (b.length : Int)
      · rw [if_pos cj]
        exact adva (by omega) (.inl (List.getElem?_eq_none (by omega)))
      · rw [if_neg cj]
        have hj : j < (b.length : Int) := by omega
        by_cases ci : i < (a.length : Int)
        · rw [if_pos ci, if_pos h0, if_pos h1, if_pos hj]
          by_cases ct : (rd_T58 a i).f1 ≤ (rd_T58 b j).f1
          · rw [decide_eq_true ct]
            exact adva ci (.inr ⟨_, rd58_get b j h1 hj, ct⟩)
          · rw [decide_eq_false ct]
            exact advb hj (.inr ⟨_, rd58_get a i h0 ci, ct⟩)
        · rw [if_neg ci]
          exact advb hj (.inl (List.getElem?_eq_none (by omega)))
    simp only [spec_RecordsMerge.l0]
    by_cases ci : i < (a.length : Int)
    · rw [if_pos ci]; exact hj2
    · rw [if_neg ci, decide_eq_true (by omega)]; exact hj2
theorem specMerge (M : Nat) (a b : List S58) (K : Nat) (ha : a.length ≤ 1048576) (hb : b.length ≤ 1048576) (hxa : ∀ x ∈ a, x.f3.length ≤ M ∧ x.f5.length ≤ M) (hxb : ∀ x ∈ b, x.f3.length ≤ M ∧ x.f5.length ≤ M) (hM : M < 17592186044416) (hK : a.length + b.length + M + M + 200 < K) :
    spec_RecordsMerge.f K a b = some (if mergeOk (rowB a) (rowB b) a b = true then mergeF a b else [], mergeOk (rowB a) (rowB b) a b) := by
  obtain ⟨K, rfl⟩ : ∃ m, K = m + 1 := ⟨K - 1, by omega⟩
  unfold spec_RecordsMerge.f
  rw [l42Rows M a _ (by omega) hxa (by omega) (by omega), l42Rows M b _ (by omega) hxb (by omega) (by omega)]
  simp only [Option.bind_some]
  by_cases ca : rowB a = true
  · rw [if_pos ca]
    by_cases cb : rowB b = true
    · rw [if_pos cb, w64 (by omega) (by omega)]
      simp only [spec_RecordsMerge.j0]
      by_cases cl : (a.length : Int) + (b.length : Int) > 30
      · rw [decide_eq_true cl, if_pos rfl]
        have h : mergeOk (rowB a) (rowB b) a b = false := by
          unfold mergeOk; rw [decide_eq_false (by omega), Bool.and_false]
        rw [h]; simp
      · rw [decide_eq_false cl, if_neg (by simp)]
        have h : mergeOk (rowB a) (rowB b) a b = true := by
          unfold mergeOk; rw [ca, cb, decide_eq_true (by omega)]; rfl
        rw [h, if_pos rfl]
        rw [specMerge_loop a b (by omega) (by omega) (fun x hx => by have := hxa x hx; omega) (fun x hx => by have := hxb x hx; omega) (a.length + b.length) 0 0 [] K (by omega) (by omega) (by omega) (by omega) (by omega) (by omega) (by simp; omega)]
        simp
    · rw [if_neg cb]
      simp only [spec_RecordsMerge.j0]
      rw [if_pos trivial]
      have h : mergeOk (rowB a) (rowB b) a b = false := by
        unfold mergeOk; rw [Bool.eq_false_iff.2 cb, Bool.and_false]; rfl
      rw [h]; simp
  · rw [if_neg ca]
    simp only [spec_RecordsMerge.j0]
    rw [if_pos trivial]
    have h : mergeOk (rowB a) (rowB b) a b = false := by
      unfold mergeOk; rw [Bool.eq_false_iff.2 ca]; rfl
    rw [h]; simp
end Go.Proofs.Ytlhbclblehmdbaa.PFnExactRecordsMerge
