/- Sizes, copies, comparison and marks of groups. -/
import Derived.Test.YtlhbclblehmdbaaH4
set_option linter.unusedVariables false
set_option linter.unusedSimpArgs false
namespace Go.Proofs.Ytlhbclblehmdbaa.PFnExactGroupsPut
open Go.RowKit Go.Proofs.YtlhbclblehmdbaaW.PrintWords Go.Proofs.YtlhbclblehmdbaaW.PrintLast Go.Proofs.YtlhbclblehmdbaaW.PrintMore

theorem w64 {n : Int} (h0 : -9223372036854775808 ≤ n) (h1 : n ≤ 9223372036854775807) : wrap64 n = n := by unfold wrap64; omega
def conv (x : S48) : S34 := ⟨x.f0, x.f1⟩
def sz48 (l : List S48) : Nat := (l.map fun x => x.f0.size).sum
theorem szOne (a : ByteArray) (x n : Int) (hn : 0 ≤ n) (hb : n ≤ 1048576) (ha : a.size ≤ 9223372036854775807) : ∃ r, laws_szGroup.f a x n = some r ∧ (r < 0 ∨ (r = n - a.size ∧ 0 ≤ r)) := by
  unfold laws_szGroup.f
  rw [w64 (by omega) (by omega)]
  by_cases c : n - (a.size : Int) < 0
  · rw [if_pos c]; exact ⟨-1, rfl, .inl (by omega)⟩
  · rw [if_neg c]; exact ⟨_, rfl, .inr ⟨rfl, by omega⟩⟩
theorem drop48 (l : List S48) {i : Nat} (h : i < l.length) : l.drop i = l.getD i z48 :: l.drop (i + 1) := by
  rw [List.getD_eq_getElem?_getD, List.getElem?_eq_getElem h]
  exact List.drop_eq_getElem_cons h
theorem szS_loop (l : List S48) (hl : l.length ≤ 9223372036854775807) (hx : ∀ x ∈ l, x.f0.size ≤ 9223372036854775807) : ∀ (m K i : Nat) (n : Int), l.length - i ≤ m → i ≤ l.length → m < K → 0 ≤ n → n ≤ 1048576 →
    ∃ r, laws_szGroupS.l0 K l n (i : Int) = some r ∧ (r < 0 ∨ (r = n - sz48 (l.drop i) ∧ 0 ≤ r))
  | m, 0, i, n, _, _, h, _, _ => absurd h (Nat.not_lt_zero _)
  | m, K + 1, i, n, hm, hi, hK, hn, hb => by
    simp only [laws_szGroupS.l0]
    by_cases c1 : i < l.length
    · have hM : (l.getD i z48).f0.size ≤ 9223372036854775807 := by
        rw [List.getD_eq_getElem?_getD, List.getElem?_eq_getElem c1]
        exact hx _ (List.getElem_mem c1)
      obtain ⟨r, h1, h2⟩ := szOne (l.getD i z48).f0 (l.getD i z48).f1 n hn hb hM
      rw [if_pos (by omega), if_pos (by omega), show rd_T48 l (i : Int) = l.getD i z48 from rfl, h1]
      simp only [Option.bind_some]
      by_cases c2 : r < 0
      · rw [if_pos c2]; exact ⟨-1, rfl, .inl (by omega)⟩
      · obtain ⟨h3, h4⟩ := h2.resolve_left c2
        rw [if_neg c2, show wrap64 ((i : Int) + 1) = ((i + 1 : Nat) : Int) by rw [w64 (by omega) (by omega)]; omega]
        obtain ⟨r', h5, h6⟩ := szS_loop l hl hx (m - 1) K (i + 1) r (by omega) (by omega) (by omega) h4 (by omega)
        refine ⟨r', h5, h6.imp id fun h => ⟨?_, h.2⟩⟩
        rw [drop48 l c1]
        simp only [sz48, List.map_cons, List.sum_cons] at h ⊢
        omega
    · rw [if_neg (by omega), List.drop_eq_nil_of_le (by omega)]
      exact ⟨n, rfl, .inr ⟨by simp [sz48], hn⟩⟩
theorem szS (l : List S48) (K : Nat) (n : Int) (hl : l.length ≤ 9223372036854775807) (hx : ∀ x ∈ l, x.f0.size ≤ 9223372036854775807) (hK : l.length < K) (hn : 0 ≤ n) (hb : n ≤ 1048576) :
    ∃ r, laws_szGroupS.f K l n = some r ∧ (r < 0 ∨ (r = n - l.length - sz48 l ∧ 0 ≤ r)) := by
  unfold laws_szGroupS.f
  rw [w64 (by omega) (by omega)]
  by_cases c : n - (l.length : Int) < 0
  · rw [if_pos c]; exact ⟨-1, rfl, .inl (by omega)⟩
  · rw [if_neg c]
    obtain ⟨r, h1, h2⟩ := szS_loop l hl hx l.length K 0 (n - l.length) (by omega) (by omega) hK (by omega) (by omega)
    exact ⟨r, h1, by simpa using h2⟩
theorem sz48_le : ∀ (l : List S48), ∀ x ∈ l, x.f0.size ≤ sz48 l
  | [], x, h => by cases h
  | y :: t, x, h => by
    have e : sz48 (y :: t) = y.f0.size + sz48 t := by simp [sz48]
    rcases List.mem_cons.1 h with rfl | h
    · omega
    · have := sz48_le t x h; omega

theorem toS_loop (l : List S48) (hl : l.length ≤ 1048576) : ∀ (m K i : Nat) (r : List S34), l.length - i ≤ m → i ≤ l.length → m < K → r.length = l.length - i →
    laws_toGroupS.l0 K l ((l.take i).map conv ++ r) (i : Int) = some (l.map conv)
  | m, 0, i, r, _, _, h, _ => absurd h (Nat.not_lt_zero _)
  | m, K + 1, i, r, hm, hi, hK, hr => by
    simp only [laws_toGroupS.l0]
    by_cases c1 : i < l.length
    · rw [if_pos (by omega), if_pos (by omega)]
      simp only [laws_toGroup.f, Option.bind_some]
      rw [if_pos (by simp; omega), show wrap64 ((i : Int) + 1) = ((i + 1 : Nat) : Int) by rw [w64 (by omega) (by omega)]; omega]
      obtain ⟨z, r', rfl⟩ : ∃ z r', r = z :: r' := by
        cases r with
        | nil => simp at hr; omega
        | cons z r' => exact ⟨z, r', rfl⟩
      have e : ((l.take i).map conv ++ z :: r').set (i : Int).toNat ⟨(rd_T48 l (i : Int)).f0, (rd_T48 l (i : Int)).f1⟩ = (l.take (i + 1)).map conv ++ r' := by
        have hlen : ((l.take i).map conv).length = i := by simp; omega
        rw [Int.toNat_natCast, List.set_append_right _ _ (by omega), hlen, Nat.sub_self, List.set_cons_zero, List.take_add_one, List.getElem?_eq_getElem c1]
        simp only [Option.toList_some, List.map_append, List.map_cons, List.map_nil, List.append_assoc, List.cons_append, List.nil_append]
        congr 2
        simp [rd_T48, conv, List.getD_eq_getElem?_getD, List.getElem?_eq_getElem c1]
      rw [e]
      exact toS_loop l hl (m - 1) K (i + 1) r' (by omega) (by omega) (by omega) (by simp at hr; omega)
    · rw [if_neg (by omega)]
      have hr0 : r = [] := List.eq_nil_of_length_eq_zero (by omega)
      rw [hr0, List.take_of_length_le (by omega), List.append_nil]
theorem toS (l : List S48) (K : Nat) (hl : l.length ≤ 1048576) (hK : l.length < K) : laws_toGroupS.f K l = some (l.map conv) := by
  unfold laws_toGroupS.f
  rw [if_pos (by omega), Int.toNat_natCast, if_pos (by omega)]
  have := toS_loop l hl l.length K 0 (List.replicate l.length z34) (by omega) (by omega) hK (by simp)
  simpa using this

theorem eqS_loop (l : List S34) (hl : l.length ≤ 4611686018427387904) : ∀ (m K i : Nat), l.length - i ≤ m → i ≤ l.length → m < K → laws_eqGroupS.l0 K l l (i : Int) = some true
  | m, 0, i, _, _, h => absurd h (Nat.not_lt_zero _)
  | m, K + 1, i, hm, hi, hK => by
    simp only [laws_eqGroupS.l0]
    by_cases c1 : i < l.length
    · rw [if_pos (by omega), if_pos (by omega), if_pos (by omega)]
      simp only [laws_eqGroup.f, if_pos, Option.bind_some]
      rw [show wrap64 ((i : Int) + 1) = ((i + 1 : Nat) : Int) by rw [w64 (by omega) (by omega)]; omega]
      exact eqS_loop l hl (m - 1) K (i + 1) (by omega) (by omega) (by omega)
    · rw [if_neg (by omega)]
theorem eqS (l : List S34) (K : Nat) (hl : l.length ≤ 4611686018427387904) (hK : l.length < K) : laws_eqGroupS.f K l l = some true := by
  unfold laws_eqGroupS.f
  rw [if_pos rfl]
  exact eqS_loop l hl l.length K 0 (by omega) (by omega) hK

theorem text_loop : ∀ (m : Nat) (K : Nat) (x : Int) (t : ByteArray), 0 ≤ x → x ≤ 9223372036854775807 → x < 10 ^ m → t.size + m ≤ 1000 → m < K → ∃ r, laws_markText.l0 K x t = some r
  | m, 0, x, t, _, _, _, _, h => absurd h (Nat.not_lt_zero _)
  | m, K + 1, x, t, h0, h63, hx, ht, hK => by
    simp only [laws_markText.l0]
    by_cases c : x > 0
    · rw [if_pos c]
      simp only [Option.bind_some]
      have hs : (strOfNums [(wrap64 (48 + (Int.tmod x 10))) % 256]).size = 1 := rfl
      cases m with
      | zero => simp at hx; omega
      | succ m =>
        rw [if_pos (by rw [hs]; omega)]
        have hd : Int.tdiv x 10 = x / 10 := by rw [Int.tdiv_eq_ediv_of_nonneg h0]
        have hp : x < 10 ^ m * 10 := by rw [← Int.pow_succ]; exact hx
        rw [hd, w64 (by omega) (by omega)]
        exact text_loop m K (x / 10) _ (by omega) (by omega) (by omega) (by rw [ByteArray.size_append, hs]; omega) (by omega)
    · rw [if_neg c, if_pos (by omega)]
      exact ⟨_, rfl⟩
theorem textV (K : Nat) (x : Int) (h0 : 0 ≤ x) (h63 : x ≤ 9223372036854775807) (hK : 19 < K) : ∃ r, laws_markText.f K x = some r := by
  unfold laws_markText.f
  by_cases c : x ≤ 0
  · rw [if_pos c]; exact ⟨_, rfl⟩
  · rw [if_neg c]
    exact text_loop 19 K x _ h0 h63 (by omega) (by decide) hK
/-- What the marking of a list leaves. -/
def markG : Nat → List S34 → Int → List S34
  | 0, _, _ => []
  | _ + 1, [], _ => []
  | K + 1, _ :: t, k => ⟨(laws_markText.f K k).getD ⟨#[]⟩, k + 1⟩ :: markG K t (k + 2)
theorem markG_length : ∀ (l : List S34) (K : Nat) (k : Int), l.length < K → (markG K l k).length = l.length
  | l, 0, _, h => absurd h (Nat.not_lt_zero _)
  | [], K + 1, _, _ => rfl
  | x :: t, K + 1, k, h => by simp only [markG, List.length_cons]; rw [markG_length t K (k + 2) (by simpa using h)]
theorem markS_loop : ∀ (l pre : List S34) (k : Int) (K : Nat), l.length + 20 < K → 0 ≤ k → k + 2 * l.length ≤ 4611686018427387904 → pre.length + l.length ≤ 4611686018427387904 →
    laws_markGroupS.l0 K (pre ++ l) k (pre.length : Int) = some (k + 2 * l.length, pre ++ markG K l k)
  | l, pre, k, 0, h, _, _, _ => absurd h (Nat.not_lt_zero _)
  | [], pre, k, K + 1, _, _, _, _ => by simp [laws_markGroupS.l0, markG]
  | x :: t, pre, k, K + 1, hK, hk, hb, hp => by
    simp only [List.length_cons] at hK hb hp
    obtain ⟨r, hr⟩ := textV K k hk (by omega) (by omega)
    simp only [laws_markGroupS.l0]
    rw [if_pos (by simp; omega), hr]
    simp only [Option.bind_some]
    rw [if_pos (by omega)]
    have e0 : rd_T34 (pre ++ x :: t) (pre.length : Int) = x := by simp [rd_T34]
    have e1 : (pre ++ x :: t).set (pre.length : Int).toNat ⟨r, (rd_T34 (pre ++ x :: t) (pre.length : Int)).f1⟩ = pre ++ (⟨r, x.f1⟩ : S34) :: t := by rw [e0]; simp
    rw [e1]
    have e2 : rd_T34 (pre ++ (⟨r, x.f1⟩ : S34) :: t) (pre.length : Int) = ⟨r, x.f1⟩ := by simp [rd_T34]
    have e3 : wrap64 (k + 1) = k + 1 := w64 (by omega) (by omega)
    have e4 : wrap64 (k + 1 + 1) = k + 2 := by rw [w64 (by omega) (by omega)]; omega
    have e5 : wrap64 ((pre.length : Int) + 1) = ((pre ++ [(⟨r, k + 1⟩ : S34)]).length : Int) := by rw [w64 (by omega) (by omega)]; simp
    have e6 : (pre ++ (⟨r, x.f1⟩ : S34) :: t).set (pre.length : Int).toNat ⟨r, k + 1⟩ = (pre ++ [(⟨r, k + 1⟩ : S34)]) ++ t := by simp
    rw [e2, e3, e4, e5, e6, markS_loop t (pre ++ [(⟨r, k + 1⟩ : S34)]) (k + 2) K (by omega) (by omega) (by omega) (by simp; omega)]
    simp only [markG, hr, Option.getD_some, List.length_cons]
    congr 2
    · omega
    · simp
theorem markS (l : List S34) (k : Int) (K : Nat) (hK : l.length + 20 < K) (hk : 0 ≤ k) (hb : k + 2 * l.length ≤ 4611686018427387904) : laws_markGroupS.f K l k = some (k + 2 * l.length, markG K l k) := by
  have := markS_loop l [] k K hK hk hb (by simp; omega)
  simpa [laws_markGroupS.f] using this
theorem heldS_loop : ∀ (l pre : List S34) (k : Int) (K : Nat), l.length + 20 < K → 0 ≤ k → k + 2 * l.length ≤ 4611686018427387904 → pre.length + l.length ≤ 4611686018427387904 →
    laws_heldGroupS.l0 K (pre ++ markG K l k) k (pre.length : Int) = some (k + 2 * l.length)
  | l, pre, k, 0, h, _, _, _ => absurd h (Nat.not_lt_zero _)
  | [], pre, k, K + 1, _, _, _, _ => by simp [laws_heldGroupS.l0, markG]
  | x :: t, pre, k, K + 1, hK, hk, hb, hp => by
    simp only [List.length_cons] at hK hb hp
    obtain ⟨r, hr⟩ := textV K k hk (by omega) (by omega)
    simp only [laws_heldGroupS.l0, markG, hr, Option.getD_some]
    rw [if_pos (by simp; omega), if_pos (by omega)]
    simp only [Option.bind_some]
    have e0 : rd_T34 (pre ++ (⟨r, k + 1⟩ : S34) :: markG K t (k + 2)) (pre.length : Int) = ⟨r, k + 1⟩ := by simp [rd_T34]
    have e3 : wrap64 (k + 1) = k + 1 := w64 (by omega) (by omega)
    have e4 : wrap64 (k + 1 + 1) = k + 2 := by rw [w64 (by omega) (by omega)]; omega
    have e5 : wrap64 ((pre.length : Int) + 1) = ((pre ++ [(⟨r, k + 1⟩ : S34)]).length : Int) := by rw [w64 (by omega) (by omega)]; simp
    have e6 : pre ++ (⟨r, k + 1⟩ : S34) :: markG K t (k + 2) = (pre ++ [(⟨r, k + 1⟩ : S34)]) ++ markG K t (k + 2) := by simp
    rw [e0, if_pos rfl, e3, if_pos rfl, e4, e5, e6, heldS_loop t (pre ++ [(⟨r, k + 1⟩ : S34)]) (k + 2) K (by omega) (by omega) (by omega) (by simp; omega)]
    simp only [List.length_cons]
    congr 1
    omega
theorem heldS (l : List S34) (k : Int) (K : Nat) (hK : l.length + 20 < K) (hk : 0 ≤ k) (hb : k + 2 * l.length ≤ 4611686018427387904) : laws_heldGroupS.f K (markG K l k) k = some (k + 2 * l.length) := by
  have := heldS_loop l [] k K hK hk hb (by simp; omega)
  simpa [laws_heldGroupS.f] using this
end Go.Proofs.Ytlhbclblehmdbaa.PFnExactGroupsPut
