/- A group that is put into a valid list: where it stands, what stands beside it; what is told twice; the plain law of FnGroupsTwice. -/
import Derived.Test.YtlhbclblehmdbaaD4
set_option linter.unusedVariables false
set_option linter.unusedSimpArgs false
namespace Go.Proofs.Ytlhbclblehmdbaa.PFnExactGroupsPut
open Go.RowKit Go.Proofs.YtlhbclblehmdbaaW.PrintWords Go.Proofs.YtlhbclblehmdbaaW.PrintLast Go.Proofs.YtlhbclblehmdbaaW.PrintMore

theorem lt34_ne {a b : S34} (h : lt34 a b) : a.f0.toList ≠ b.f0.toList := fun e => by
  unfold lt34 at h
  rw [e, bl_irrefl] at h
  cases h
theorem lt34_trans {a b c : S34} (h : lt34 a b) (h' : lt34 b c) : lt34 a c := bl_trans _ _ _ h h'
/-- Of two names one is the lesser, or they are equal. -/
theorem bl_total : ∀ x y : List UInt8, Op.bytesLess x y = true ∨ x = y ∨ Op.bytesLess y x = true := by
  intro x y
  by_cases h : Op.bytesLess x y = true
  · exact .inl h
  · by_cases e : x = y
    · exact .inr (.inl e)
    · refine .inr (.inr ?_)
      have h1 : ¬ Lib.compareBytes x y < 0 := fun c => h ((cmp_lt x y).1 c)
      have h2 : ¬ Lib.compareBytes x y = 0 := fun c => e ((cmp_zero x y).1 c)
      induction x generalizing y with
      | nil => cases y with
        | nil => exact absurd rfl e
        | cons b r => exact absurd (by simp [Op.bytesLess]) h
      | cons a r ih => cases y with
        | nil => simp [Op.bytesLess]
        | cons b s =>
          rw [bl_cons] at h ⊢
          by_cases hab : a.toNat = b.toNat
          · have hab' := (u8_eq a b).2 hab
            subst hab'
            have h' : ¬ Op.bytesLess r s = true := fun c => h (.inr ⟨rfl, c⟩)
            have e' : r ≠ s := fun c => e (by rw [c])
            exact .inr ⟨rfl, ih s h' e' (fun c => h' ((cmp_lt r s).1 c)) (fun c => e' ((cmp_zero r s).1 c))⟩
          · refine .inl ?_
            have : ¬ a.toNat < b.toNat := fun c => h (.inl c)
            omega

def nameNe (y : S34) (x : S34) : Bool := !(x.f0.toList == y.f0.toList)
/-- What stands ahead of the group, and what behind it. -/
theorem refF_parts (y : S34) : ∀ l : List S34, l.Pairwise lt34 → ∃ A B, refF y l false = A ++ y :: B ∧ (∀ x ∈ A, lt34 x y) ∧ (∀ x ∈ B, lt34 y x) ∧ l.filter (nameNe y) = A ++ B ∧ (A ++ B).Pairwise lt34 ∧ (∀ x ∈ A ++ B, x ∈ l)
  | [], _ => ⟨[], [], rfl, by simp, by simp, rfl, by simp, by simp⟩
  | z :: r, h => by
    have h1 := List.pairwise_cons.1 h
    rw [refF]
    by_cases c : Op.bytesLess z.f0.toList y.f0.toList = true
    · rw [if_pos c]
      obtain ⟨A, B, e, hA, hB, hf, hp, hm⟩ := refF_parts y r h1.2
      have hz : nameNe y z = true := by
        unfold nameNe
        have : z.f0.toList ≠ y.f0.toList := lt34_ne c
        simp [this]
      refine ⟨z :: A, B, by rw [e]; rfl, ?_, hB, by rw [List.filter_cons_of_pos hz, hf]; rfl, ?_, ?_⟩
      · intro x hx
        rcases List.mem_cons.1 hx with hx | hx
        · rw [hx]; exact c
        · exact hA x hx
      · rw [List.cons_append]
        exact List.pairwise_cons.2 ⟨fun x hx => h1.1 x (hm x hx), hp⟩
      · intro x hx
        rw [List.cons_append] at hx
        rcases List.mem_cons.1 hx with hx | hx
        · rw [hx]; exact List.mem_cons_self
        · exact List.mem_cons_of_mem _ (hm x hx)
    · rw [if_neg c]
      by_cases e : z.f0.toList = y.f0.toList
      · rw [if_pos e]
        have hgt : ∀ x ∈ r, lt34 y x := fun x hx => by have := h1.1 x hx; unfold lt34 at this ⊢; rw [← e]; exact this
        have hne : ∀ x ∈ r, x.f0.toList ≠ y.f0.toList := fun x hx => (lt34_ne (hgt x hx)).symm
        have hz : ¬ nameNe y z = true := by unfold nameNe; simp [e]
        have hf : r.filter (nameNe y) = r := List.filter_eq_self.2 (fun x hx => by unfold nameNe; simp [hne x hx])
        rw [refF_true y r hne]
        exact ⟨[], r, rfl, by simp, hgt, by rw [List.filter_cons_of_neg hz, hf]; rfl, h1.2, fun x hx => List.mem_cons_of_mem _ hx⟩
      · rw [if_neg e]
        have hyz : lt34 y z := by
          rcases bl_total z.f0.toList y.f0.toList with h | h | h
          · exact absurd h c
          · exact absurd h e
          · exact h
        have hgt : ∀ x ∈ z :: r, lt34 y x := fun x hx => by
          rcases List.mem_cons.1 hx with hx | hx
          · rw [hx]; exact hyz
          · exact lt34_trans hyz (h1.1 x hx)
        have hne : ∀ x ∈ r, x.f0.toList ≠ y.f0.toList := fun x hx => (lt34_ne (hgt x (List.mem_cons_of_mem _ hx))).symm
        have hf : (z :: r).filter (nameNe y) = z :: r := List.filter_eq_self.2 (fun x hx => by unfold nameNe; simp [(lt34_ne (hgt x hx)).symm])
        rw [refF_true y r hne]
        exact ⟨[], z :: r, rfl, by simp, hgt, hf, h, fun x hx => hx⟩
theorem refF_fix (y : S34) : ∀ A B : List S34, (∀ x ∈ A, lt34 x y) → (∀ x ∈ B, lt34 y x) → refF y (A ++ y :: B) false = A ++ y :: B
  | [], B, _, hB => by
    rw [List.nil_append, refF, if_neg (by rw [bl_irrefl]; decide), if_pos rfl, refF_true y B (fun x hx => (lt34_ne (hB x hx)).symm)]
    rfl
  | z :: r, B, hA, hB => by
    rw [List.cons_append, refF, if_pos (show Op.bytesLess z.f0.toList y.f0.toList = true from hA z List.mem_cons_self), refF_fix y r B (fun x hx => hA x (List.mem_cons_of_mem _ hx)) hB]
theorem vl_of {l : List S34} (h8 : l.length ≤ 8) (hg : ∀ x ∈ l, gv x) (hp : l.Pairwise lt34) : vl l := by
  refine ⟨h8, fun t ht => ⟨?_, fun h0 => ?_⟩⟩
  · rw [List.getD_eq_getElem?_getD, List.getElem?_eq_getElem ht]
    exact hg _ (List.getElem_mem _)
  · rw [List.getD_eq_getElem?_getD, List.getD_eq_getElem?_getD, List.getElem?_eq_getElem ht, List.getElem?_eq_getElem (by omega : t - 1 < l.length)]
    exact (List.pairwise_iff_getElem.1 hp) (t - 1) t (by omega) ht (by omega)
theorem vl_gv {l : List S34} (h : vl l) : ∀ x ∈ l, gv x := by
  intro x hx
  obtain ⟨i, hi, rfl⟩ := List.getElem_of_mem hx
  have := (h.2 i hi).1
  rw [List.getD_eq_getElem?_getD, List.getElem?_eq_getElem hi] at this
  exact this
/-- A valid list with a valid group put into it: ahead, the group, behind. -/
theorem put_parts {a : List S34} {y : S34} (ha : vl a) (hy : gv y) (h8 : (putL a y).length ≤ 8) :
    ∃ A B, putL a y = A ++ y :: B ∧ (∀ x ∈ A, lt34 x y) ∧ (∀ x ∈ B, lt34 y x) ∧ a.filter (nameNe y) = A ++ B ∧ vl (putL a y) ∧ putL (putL a y) y = putL a y := by
  obtain ⟨A, B, e, hA, hB, hf, hp, hm⟩ := refF_parts y a (vl_pair ha)
  have e' : putL a y = A ++ y :: B := (putL_ref y a (vl_pair ha)).trans e
  have hgp : (A ++ y :: B).Pairwise lt34 := by
    have h1 := List.pairwise_append.1 hp
    refine List.pairwise_append.2 ⟨h1.1, List.pairwise_cons.2 ⟨hB, h1.2.1⟩, fun x hx z hz => ?_⟩
    rcases List.mem_cons.1 hz with hz | hz
    · rw [hz]; exact hA x hx
    · exact h1.2.2 x hx z hz
  have hv : vl (putL a y) := by
    refine vl_of h8 (fun x hx => ?_) (by rw [e']; exact hgp)
    rw [e'] at hx
    rcases List.mem_append.1 hx with hx | hx
    · exact vl_gv ha x (hm x (List.mem_append_left _ hx))
    · rcases List.mem_cons.1 hx with hx | hx
      · rw [hx]; exact hy
      · exact vl_gv ha x (hm x (List.mem_append_right _ hx))
  refine ⟨A, B, e', hA, hB, hf, hv, ?_⟩
  rw [putL_ref y (putL a y) (vl_pair hv), e']
  exact refF_fix y A B hA hB

/-- Valid arguments: the reference's GroupsPut. -/
theorem spec_put_yes (K : Nat) (a : List S34) (y : S34) (ha : vl a) (hy : gv y) (hM : ∀ x ∈ a, x.f0.size ≤ 1048576) (hys : y.f0.size ≤ 1048576) (hK : 10000000 ≤ K) : spec_GroupsPut.f K a y.f0 y.f1 = some (fin8 (putL a y)) := by
  have hl := ha.1
  obtain ⟨va, hva, iva⟩ := spec_vl a K hM (by omega) (by omega)
  obtain ⟨vg, hvg, ivg⟩ := spec_gv y K (by omega) (by omega)
  obtain ⟨k, rfl⟩ : ∃ k, K = k + 1 := ⟨K - 1, by omega⟩
  obtain rfl := iva.2 ha
  obtain rfl := ivg.2 hy
  unfold spec_GroupsPut.f
  rw [hva]
  simp only [Option.bind_some, if_true, hvg, Bool.not_true]
  rw [spec_GroupsPut.j0, if_neg (by decide)]
  have h0 := spec_put_loop y a (by omega) a.length k 0 [] false (by omega) (by omega) (by omega) (by simp)
  rw [show ((0 : Nat) : Int) = 0 from rfl] at h0
  rw [h0, List.nil_append, List.drop_zero, putL_ref y a (vl_pair ha)]

theorem same_loop (l : List S34) (hl : l.length ≤ 4611686018427387904) : ∀ (m K i : Nat), l.length - i ≤ m → i ≤ l.length → m < K → laws_sameGroups.l0 K l l (i : Int) = some true
  | m, 0, i, _, _, h => absurd h (by omega)
  | m, K + 1, i, hm, hi, hK => by
    rw [laws_sameGroups.l0]
    by_cases c : i < l.length
    · rw [if_pos (by omega), if_pos (by omega), if_pos (by omega), if_neg (by simp), show wrap64 ((i : Int) + 1) = ((i + 1 : Nat) : Int) from by rw [w64 (by omega) (by omega)]; rfl]
      exact same_loop l hl (m - 1) K (i + 1) (by omega) (by omega) (by omega)
    · rw [if_neg (by omega)]
theorem same_ok (l : List S34) (K : Nat) (hl : l.length ≤ 4611686018427387904) (hK : l.length < K) : laws_sameGroups.f K l l = some true := by
  unfold laws_sameGroups.f
  rw [if_pos rfl]
  exact same_loop l hl l.length K 0 (by omega) (by omega) hK

theorem put_fits {k : Nat} {l : List S34} {n : ByteArray} (hl : l.length ≤ 8) (hs : ∀ x ∈ l, x.f0.size ≤ 7) (hn : n.size ≤ 7) (hk : 100000000 ≤ k) : putFits k l n = true :=
  putFits_iff.2 ⟨by omega, fun x hx => by have := hs x hx; omega, by omega, hk⟩

theorem bytes_wf {l : List Int} (h : ∀ x ∈ l, (Lit.int .u8 x).wf = true) : ∀ x ∈ l, 0 ≤ x ∧ x < 256 := by
  intro x hx
  have := h x hx
  simp [Lit.wf, IntKind.min, IntKind.max, IntKind.bits, IntKind.signed] at this
  omega

/-- What both laws begin with. -/
theorem drawn (K : Nat) (l0 : List Int) (hx : ∀ x ∈ l0, (Lit.int .u8 x).wf = true) (hK : 100000000 ≤ K) : ∃ (L : List S34) (y : S34) (R : List S34) (ok : Bool),
    spec_DrawGroupsPut.f K l0 = some (L, y.f0, y.f1) ∧ L.length ≤ 8 ∧ short L ∧ y.f0.size ≤ 7 ∧ spec_GroupsPut.f K L y.f0 y.f1 = some (R, ok) ∧ impl_GroupsPut.f K L y.f0 y.f1 = some (R, ok) ∧ R.length ≤ 8 ∧ short R ∧ (ok = true → vl L ∧ gv y ∧ R = putL L y) := by
  obtain ⟨L, n, v, hd, h8, hs, hn, _, _⟩ := draw_put K l0 (bytes_wf hx) (by omega)
  obtain ⟨R, ok, hR, hR8, hRm, hok⟩ := spec_put K L ⟨n, v⟩ (fun x h => by have := hs x h; omega) (by show n.size ≤ _; omega) (by omega) (by omega)
  refine ⟨L, ⟨n, v⟩, R, ok, hd, h8, hs, hn, hR, ?_, hR8, ?_, hok⟩
  · unfold impl_GroupsPut.f
    rw [if_pos (put_fits h8 hs hn hK)]
    exact hR
  · intro x hx
    rcases hRm x hx with h | h
    · exact hs x h
    · rw [h]; exact hn

theorem FnGroupsTwice : laws_FnGroupsTwice.Pure := by
  intro l0 _ _ hx
  refine ⟨100000001, ?_⟩
  unfold laws_FnGroupsTwice.f
  by_cases c : (l0.length : Int) > 1048576
  · rw [if_pos c]
  · rw [if_neg c]
    obtain ⟨L, y, R, ok, hd, h8, hs, hn, hR, hI, hR8, hRs, hok⟩ := drawn 100000001 l0 hx (by omega)
    rw [hd]
    simp only [Option.bind_some]
    rw [hI]
    simp only [Option.bind_some]
    rw [hR]
    simp only [Option.bind_some, bne_self_eq_false, Bool.false_eq_true, if_false]
    rw [same_ok R _ (by omega) (by omega)]
    simp only [Option.bind_some, if_true]
    rw [laws_FnGroupsTwice.j0]
    cases ok with
    | false =>
      rw [if_pos (by decide), if_pos (by decide), same_ok R _ (by omega) (by omega)]
      rfl
    | true =>
      obtain ⟨ha, hy, rfl⟩ := hok rfl
      obtain ⟨A, B, e, hA, hB, hf, hv, hfix⟩ := put_parts ha hy hR8
      have h2 := spec_put_yes 100000000 (putL L y) y hv hy (fun x h => by have := hRs x h; omega) (by omega) (by omega)
      rw [hfix] at h2
      have h3 : impl_GroupsPut.f 100000000 (putL L y) y.f0 y.f1 = some (putL L y, true) := by
        unfold impl_GroupsPut.f
        rw [if_pos (put_fits hR8 hRs hn (by omega)), h2]
        unfold fin8
        rw [if_neg (by omega)]
      rw [if_neg (by decide), h3]
      simp only [Option.bind_some, if_true]
      rw [same_ok _ _ (by omega) (by omega)]
      rfl
end Go.Proofs.Ytlhbclblehmdbaa.PFnExactGroupsPut
