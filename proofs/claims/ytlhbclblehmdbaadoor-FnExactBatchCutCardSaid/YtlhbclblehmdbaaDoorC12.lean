/- What the copying, comparing, measuring and checking functions answer, in plain lists. -/
import Derived.Test.YtlhbclblehmdbaaDoorC10
import Derived.Test.YtlhbclblehmdbaaDoorC3
import Derived.Test.YtlhbclblehmdbaaDoorC8
set_option linter.unusedVariables false
set_option linter.unusedSimpArgs false
namespace Go.Proofs.YtlhbclblehmdbaaDoor.PFnExactBatchCut
open Go.RowKit Go.Proofs.YtlhbclblehmdbaaDoorW.PrintWords Go.Proofs.YtlhbclblehmdbaaDoorW.PrintLast Go.Proofs.YtlhbclblehmdbaaDoorW.PrintMore

theorem step64 {i : Int} {n : Nat} (h0 : 0 ≤ i) (h1 : i < (n : Int)) (hn : n ≤ 9223372036854775807) : wrap64 (i + 1) = i + 1 := w64 (by omega) (by omega)
theorem drop_gen {α : Type} (l : List α) (z : α) (i : Int) (h0 : 0 ≤ i) (h1 : i < (l.length : Int)) : l.drop i.toNat = l.getD i.toNat z :: l.drop (i + 1).toNat := by
  have h : i.toNat < l.length := by omega
  rw [List.drop_eq_getElem_cons h, List.getD_eq_getElem?_getD, List.getElem?_eq_getElem h, show (i + 1).toNat = i.toNat + 1 from by omega]
  rfl
theorem drop_end {α : Type} (l : List α) (i : Int) (h : ¬ i < (l.length : Int)) : l.drop i.toNat = [] := List.drop_eq_nil_of_le (by omega)
theorem take_gen {α : Type} (l : List α) (z : α) (i : Int) (h0 : 0 ≤ i) (h1 : i < (l.length : Int)) : l.take (i + 1).toNat = l.take i.toNat ++ [l.getD i.toNat z] := by
  have h : i.toNat < l.length := by omega
  rw [show (i + 1).toNat = i.toNat + 1 from by omega, List.take_add_one, List.getD_eq_getElem?_getD, List.getElem?_eq_getElem h]
  rfl

/-! ### sizes -/
def sz67 (l : List S67) : Nat := (l.map fun x => x.f3.length + x.f5.length).sum
theorem szInt (l : List Int) (a : Int) (h0 : 0 ≤ a) (h1 : a ≤ 1048576) (hl : l.length ≤ 9223372036854775807) : laws_szIntS.f l a = some (if a < l.length then -1 else a - l.length) := by
  unfold laws_szIntS.f
  rw [w64 (by omega) (by omega)]
  split
  · rw [if_pos (by omega)]
  · rw [if_neg (by omega)]
theorem szRec (x : S67) (a : Int) (h0 : 0 ≤ a) (h1 : a ≤ 1048576) (h3 : x.f3.length ≤ 9223372036854775807) (h5 : x.f5.length ≤ 9223372036854775807) :
    ∃ r, laws_szRecord.f x.f0 x.f1 x.f2 x.f3 x.f4 x.f5 a = some r ∧ (r < 0 ∨ (r = a - (x.f3.length + x.f5.length) ∧ 0 ≤ r)) := by
  unfold laws_szRecord.f
  rw [szInt _ _ h0 h1 h3]
  simp only [Option.bind_some]
  by_cases c : a < (x.f3.length : Int)
  · rw [if_pos c, if_pos (by omega)]
    exact ⟨_, rfl, .inl (by omega)⟩
  · rw [if_neg c, if_neg (by omega), szInt _ _ (by omega) (by omega) h5]
    simp only [Option.bind_some]
    by_cases c2 : a - (x.f3.length : Int) < (x.f5.length : Int)
    · rw [if_pos c2, if_pos (by omega)]
      exact ⟨_, rfl, .inl (by omega)⟩
    · rw [if_neg c2, if_neg (by omega)]
      exact ⟨_, rfl, .inr ⟨by omega, by omega⟩⟩
theorem szRecs_loop (l : List S67) (hl : l.length ≤ 9223372036854775807) (hx : ∀ x ∈ l, x.f3.length ≤ 9223372036854775807 ∧ x.f5.length ≤ 9223372036854775807) (d : Nat) : ∀ (i a : Int) (K : Nat), 0 ≤ i → (l.length : Int) - i = d → d < K → 0 ≤ a → a ≤ 1048576 →
    ∃ r, laws_szRecordS.l0 K l a i = some r ∧ (r < 0 ∨ (r = a - sz67 (l.drop i.toNat) ∧ 0 ≤ r)) := by
  induction d with
  | zero =>
    intro i a K h0 hd hK ha hb
    obtain ⟨K, rfl⟩ : ∃ m, K = m + 1 := ⟨K - 1, by omega⟩
    refine ⟨a, by simp only [laws_szRecordS.l0]; rw [if_neg (by omega)], .inr ⟨?_, ha⟩⟩
    rw [drop_end l i (by omega)]; simp [sz67]
  | succ d ih =>
    intro i a K h0 hd hK ha hb
    obtain ⟨K, rfl⟩ : ∃ m, K = m + 1 := ⟨K - 1, by omega⟩
    have hlt : i < (l.length : Int) := by omega
    have hm : rd_T67 l i ∈ l := by
      have h : i.toNat < l.length := by omega
      rw [show rd_T67 l i = l[i.toNat] from by simp [rd_T67, List.getD_eq_getElem?_getD, List.getElem?_eq_getElem h]]
      exact List.getElem_mem _
    obtain ⟨r, hr, hc⟩ := szRec (rd_T67 l i) a ha hb (hx _ hm).1 (hx _ hm).2
    simp only [laws_szRecordS.l0]
    rw [if_pos hlt, if_pos h0, hr]
    simp only [Option.bind_some]
    by_cases c : r < 0
    · rw [if_pos c]
      exact ⟨-1, rfl, .inl (by omega)⟩
    · rw [if_neg c, step64 h0 hlt hl]
      have hc' : r = a - ((rd_T67 l i).f3.length + (rd_T67 l i).f5.length) := by rcases hc with hc | hc; exact absurd hc c; exact hc.1
      obtain ⟨r2, h2, h3⟩ := ih (i + 1) r K (by omega) (by omega) (by omega) (by omega) (by omega)
      refine ⟨r2, h2, ?_⟩
      rw [drop_gen l z67 i h0 hlt]
      rcases h3 with h3 | h3
      · exact .inl h3
      · have e : sz67 (rd_T67 l i :: l.drop (i + 1).toNat) = (rd_T67 l i).f3.length + (rd_T67 l i).f5.length + sz67 (l.drop (i + 1).toNat) := by simp [sz67]
        have e2 : l.getD i.toNat z67 = rd_T67 l i := rfl
        rw [e2, e]
        exact .inr ⟨by omega, h3.2⟩
theorem szRecs (l : List S67) (a : Int) (K : Nat) (hl : l.length ≤ 9223372036854775807) (hx : ∀ x ∈ l, x.f3.length ≤ 9223372036854775807 ∧ x.f5.length ≤ 9223372036854775807) (hK : l.length < K) (ha : 0 ≤ a) (hb : a ≤ 1048576) :
    ∃ r, laws_szRecordS.f K l a = some r ∧ (r < 0 ∨ (r = a - l.length - sz67 l ∧ 0 ≤ r)) := by
  unfold laws_szRecordS.f
  rw [w64 (by omega) (by omega)]
  by_cases c : a - (l.length : Int) < 0
  · rw [if_pos c]; exact ⟨-1, rfl, .inl (by omega)⟩
  · rw [if_neg c]
    obtain ⟨r, hr, h⟩ := szRecs_loop l hl hx l.length 0 (a - l.length) K (by omega) (by omega) hK (by omega) (by omega)
    exact ⟨r, hr, by simpa using h⟩
theorem sz67_le (l : List S67) : ∀ x ∈ l, x.f3.length ≤ sz67 l ∧ x.f5.length ≤ sz67 l := by
  induction l with
  | nil => intro x hx; cases hx
  | cons y t ih =>
    intro x hx
    have e : sz67 (y :: t) = y.f3.length + y.f5.length + sz67 t := by simp [sz67]
    rcases List.mem_cons.1 hx with rfl | hx
    · omega
    · have := ih x hx; omega

/-! ### copies -/
def conv (x : S67) : S41 := ⟨x.f0, x.f1, x.f2, x.f3, x.f4, x.f5⟩
theorem toInt_loop (l : List Int) (hl : l.length ≤ 9223372036854775807) (d : Nat) : ∀ (i : Int) (r : List Int) (K : Nat), 0 ≤ i → (l.length : Int) - i = d → d < K → r.length = d → laws_toIntS.l0 K l (l.take i.toNat ++ r) i = some l := by
  induction d with
  | zero =>
    intro i r K h0 hd hK hr
    obtain ⟨K, rfl⟩ : ∃ m, K = m + 1 := ⟨K - 1, by omega⟩
    obtain rfl := List.eq_nil_of_length_eq_zero hr
    simp only [laws_toIntS.l0]
    rw [if_neg (by omega), List.append_nil, List.take_of_length_le (by omega)]
  | succ d ih =>
    intro i r K h0 hd hK hr
    obtain ⟨K, rfl⟩ : ∃ m, K = m + 1 := ⟨K - 1, by omega⟩
    have hlt : i < (l.length : Int) := by omega
    have htl : (l.take i.toNat).length = i.toNat := by rw [List.length_take]; omega
    simp only [laws_toIntS.l0]
    rw [if_pos hlt, if_pos h0, if_pos (by rw [List.length_append, htl]; omega), step64 h0 hlt hl]
    cases r with
    | nil => simp at hr
    | cons y t =>
      have e : (l.take i.toNat ++ y :: t).set i.toNat (rd l i) = l.take (i + 1).toNat ++ t := by
        rw [take_gen l 0 i h0 hlt]
        rw [List.set_append_right _ _ (by omega), htl, Nat.sub_self, List.set_cons_zero, List.append_assoc]
        rfl
      rw [e]
      exact ih (i + 1) t K (by omega) (by omega) (by omega) (by simpa using hr)
theorem toInt (l : List Int) (K : Nat) (hl : l.length ≤ 35184372088832) (hK : l.length < K) : laws_toIntS.f K l = some l := by
  unfold laws_toIntS.f
  rw [if_pos (by omega), if_pos (by omega)]
  have h := toInt_loop l (by omega) l.length 0 (List.replicate l.length 0) K (by omega) (by omega) hK (by simp)
  simpa using h
theorem toRec (x : S67) (K : Nat) (h3 : x.f3.length ≤ 35184372088832) (h5 : x.f5.length ≤ 35184372088832) (hK : x.f3.length + x.f5.length < K) : laws_toRecord.f K x.f0 x.f1 x.f2 x.f3 x.f4 x.f5 = some (x.f0, x.f1, x.f2, x.f3, x.f4, x.f5) := by
  unfold laws_toRecord.f
  rw [toInt _ _ h3 (by omega), toInt _ _ h5 (by omega)]
  rfl
theorem toRecs_loop (M : Nat) (l : List S67) (hl : l.length ≤ 9223372036854775807) (hx : ∀ x ∈ l, x.f3.length ≤ M ∧ x.f5.length ≤ M) (hM : M ≤ 35184372088832) (d : Nat) : ∀ (i : Int) (r : List S41) (K : Nat), 0 ≤ i → (l.length : Int) - i = d → d + M + M < K → r.length = d →
    laws_toRecordS.l0 K l ((l.map conv).take i.toNat ++ r) i = some (l.map conv) := by
  induction d with
  | zero =>
    intro i r K h0 hd hK hr
    obtain ⟨K, rfl⟩ : ∃ m, K = m + 1 := ⟨K - 1, by omega⟩
    obtain rfl := List.eq_nil_of_length_eq_zero hr
    simp only [laws_toRecordS.l0]
    rw [if_neg (by omega), List.append_nil, List.take_of_length_le (by simp; omega)]
  | succ d ih =>
    intro i r K h0 hd hK hr
    obtain ⟨K, rfl⟩ : ∃ m, K = m + 1 := ⟨K - 1, by omega⟩
    have hlt : i < (l.length : Int) := by omega
    have hm : rd_T67 l i ∈ l := by
      have h : i.toNat < l.length := by omega
      rw [show rd_T67 l i = l[i.toNat] from by simp [rd_T67, List.getD_eq_getElem?_getD, List.getElem?_eq_getElem h]]
      exact List.getElem_mem _
    have htl : ((l.map conv).take i.toNat).length = i.toNat := by rw [List.length_take, List.length_map]; omega
    have hx1 := hx _ hm
    simp only [laws_toRecordS.l0]
    rw [if_pos hlt, if_pos h0, toRec _ K (by omega) (by omega) (by omega)]
    simp only [Option.bind_some]
    rw [if_pos (by rw [List.length_append, htl]; omega), step64 h0 hlt hl]
    cases r with
    | nil => simp at hr
    | cons y t =>
      have hlt' : i < ((l.map conv).length : Int) := by simpa using hlt
      have hg : (l.map conv).getD i.toNat (conv z67) = conv (rd_T67 l i) := by
        have h : i.toNat < l.length := by omega
        simp [rd_T67, List.getD_eq_getElem?_getD, List.getElem?_eq_getElem h]
      have e : ((l.map conv).take i.toNat ++ y :: t).set i.toNat ⟨(rd_T67 l i).f0, (rd_T67 l i).f1, (rd_T67 l i).f2, (rd_T67 l i).f3, (rd_T67 l i).f4, (rd_T67 l i).f5⟩ = (l.map conv).take (i + 1).toNat ++ t := by
        rw [take_gen (l.map conv) (conv z67) i h0 hlt', hg]
        rw [List.set_append_right _ _ (by omega), htl, Nat.sub_self, List.set_cons_zero, List.append_assoc]
        rfl
      rw [e]
      exact ih (i + 1) t K (by omega) (by omega) (by omega) (by simpa using hr)
theorem toRecs (M : Nat) (l : List S67) (K : Nat) (hl : l.length ≤ 3518437208883) (hx : ∀ x ∈ l, x.f3.length ≤ M ∧ x.f5.length ≤ M) (hM : M ≤ 35184372088832) (hK : l.length + M + M < K) : laws_toRecordS.f K l = some (l.map conv) := by
  unfold laws_toRecordS.f
  rw [if_pos (by omega), if_pos (by omega)]
  have h := toRecs_loop M l (by omega) hx hM l.length 0 (List.replicate l.length z41) K (by omega) (by omega) hK (by simp)
  simpa using h

/-! ### what is equal is told equal -/
theorem eqInt_loop (l : List Int) (hl : l.length ≤ 9223372036854775807) (d : Nat) : ∀ (i : Int) (K : Nat), 0 ≤ i → (l.length : Int) - i = d → d < K → laws_eqIntS.l0 K l l i = some true := by
  induction d with
  | zero =>
    intro i K h0 hd hK
    obtain ⟨K, rfl⟩ : ∃ m, K = m + 1 := ⟨K - 1, by omega⟩
    simp only [laws_eqIntS.l0]
    rw [if_neg (by omega)]
  | succ d ih =>
    intro i K h0 hd hK
    obtain ⟨K, rfl⟩ : ∃ m, K = m + 1 := ⟨K - 1, by omega⟩
    have hlt : i < (l.length : Int) := by omega
    simp only [laws_eqIntS.l0]
    rw [if_pos hlt, if_pos h0, if_pos hlt, if_pos trivial, step64 h0 hlt hl]
    exact ih (i + 1) K (by omega) (by omega) (by omega)
theorem eqInt (l : List Int) (K : Nat) (hl : l.length ≤ 9223372036854775807) (hK : l.length < K) : laws_eqIntS.f K l l = some true := by
  unfold laws_eqIntS.f
  rw [if_pos rfl]
  exact eqInt_loop l hl l.length 0 K (by omega) (by omega) hK
theorem eqRec (x : S41) (K : Nat) (h3 : x.f3.length ≤ 9223372036854775807) (h5 : x.f5.length ≤ 9223372036854775807) (hK : x.f3.length + x.f5.length < K) : laws_eqRecord.f K x.f0 x.f1 x.f2 x.f3 x.f4 x.f5 x.f0 x.f1 x.f2 x.f3 x.f4 x.f5 = some true := by
  unfold laws_eqRecord.f
  rw [if_pos rfl, if_pos rfl, if_neg (by simp), eqInt _ _ h3 (by omega)]
  simp only [Option.bind_some, if_true]
  rw [if_neg (by simp), eqInt _ _ h5 (by omega)]
  rfl
theorem eqRecs_loop (M : Nat) (l : List S41) (hl : l.length ≤ 9223372036854775807) (hx : ∀ x ∈ l, x.f3.length ≤ M ∧ x.f5.length ≤ M) (hM : M ≤ 9223372036854775807) (d : Nat) : ∀ (i : Int) (K : Nat), 0 ≤ i → (l.length : Int) - i = d → d + M + M < K → laws_eqRecordS.l0 K l l i = some true := by
  induction d with
  | zero =>
    intro i K h0 hd hK
    obtain ⟨K, rfl⟩ : ∃ m, K = m + 1 := ⟨K - 1, by omega⟩
    simp only [laws_eqRecordS.l0]
    rw [if_neg (by omega)]
  | succ d ih =>
    intro i K h0 hd hK
    obtain ⟨K, rfl⟩ : ∃ m, K = m + 1 := ⟨K - 1, by omega⟩
    have hlt : i < (l.length : Int) := by omega
    have hm : rd_T41 l i ∈ l := by
      have h : i.toNat < l.length := by omega
      rw [show rd_T41 l i = l[i.toNat] from by simp [rd_T41, List.getD_eq_getElem?_getD, List.getElem?_eq_getElem h]]
      exact List.getElem_mem _
    have hx1 := hx _ hm
    simp only [laws_eqRecordS.l0]
    rw [if_pos hlt, if_pos h0, if_pos hlt, eqRec _ K (by omega) (by omega) (by omega)]
    simp only [Option.bind_some, if_true]
    rw [step64 h0 hlt hl]
    exact ih (i + 1) K (by omega) (by omega) (by omega)
theorem eqRecs (M : Nat) (l : List S41) (K : Nat) (hl : l.length ≤ 9223372036854775807) (hx : ∀ x ∈ l, x.f3.length ≤ M ∧ x.f5.length ≤ M) (hM : M ≤ 9223372036854775807) (hK : l.length + M + M < K) : laws_eqRecordS.f K l l = some true := by
  unfold laws_eqRecordS.f
  rw [if_pos rfl]
  exact eqRecs_loop M l hl hx hM l.length 0 K (by omega) (by omega) hK
end Go.Proofs.YtlhbclblehmdbaaDoor.PFnExactBatchCut
