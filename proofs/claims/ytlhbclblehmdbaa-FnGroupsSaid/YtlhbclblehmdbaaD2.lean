/- What the reference's draws of groups answer, in plain Lean. -/
import Derived.Test.YtlhbclblehmdbaaD1
import Derived.Test.YtlhbclblehmdbaaH10
set_option linter.unusedVariables false
set_option linter.unusedSimpArgs false
namespace Go.Proofs.Ytlhbclblehmdbaa.PFnExactGroupsPut
open Go.RowKit Go.Proofs.YtlhbclblehmdbaaW.PrintWords Go.Proofs.YtlhbclblehmdbaaW.PrintLast Go.Proofs.YtlhbclblehmdbaaW.PrintMore

/-- Bytes, not too many. -/
def codeOk (xs : List Int) : Prop := xs.length ≤ 2000 ∧ ∀ x ∈ xs, 0 ≤ x ∧ x < 256

theorem xor_nonneg (a b : Int) (ha : 0 ≤ a) (ha' : a < 4611686018427387904) (hb : 0 ≤ b) (hb' : b < 4611686018427387904) : 0 ≤ bits .xor .i64 a b := by
  obtain ⟨x, rfl⟩ := Int.eq_ofNat_of_zero_le ha
  obtain ⟨y, rfl⟩ := Int.eq_ofNat_of_zero_le hb
  have hx : x < 2 ^ 62 := by omega
  have hy : y < 2 ^ 62 := by omega
  have h3 := Nat.xor_lt_two_pow hx hy
  have h1 : (BitVec.ofInt 64 (x : Int)).toNat = x := by
    rw [BitVec.ofInt_natCast, BitVec.toNat_ofNat]; exact Nat.mod_eq_of_lt (by omega)
  have h2 : (BitVec.ofInt 64 (y : Int)).toNat = y := by
    rw [BitVec.ofInt_natCast, BitVec.toNat_ofNat]; exact Nat.mod_eq_of_lt (by omega)
  have e : bits .xor .i64 (x : Int) (y : Int) = IntKind.i64.wrap ((x ^^^ y : Nat) : Int) := by
    show IntKind.i64.wrap ((BitVec.ofInt 64 (x : Int) ^^^ BitVec.ofInt 64 (y : Int)).toNat : Int) = _
    rw [BitVec.toNat_xor, h1, h2]
  rw [e, IntKind.wrap_i64]
  generalize x ^^^ y = z at h3
  omega

theorem tmod_range (a n : Int) (ha : 0 ≤ a) (hn : 1 ≤ n) : 0 ≤ Int.tmod a n ∧ Int.tmod a n < n := by
  rw [Int.tmod_eq_emod_of_nonneg ha]
  exact ⟨Int.emod_nonneg _ (by omega), Int.emod_lt_of_pos _ (by omega)⟩

theorem rd_byte {xs : List Int} (h : ∀ x ∈ xs, 0 ≤ x ∧ x < 256) (i : Int) : 0 ≤ rd xs i ∧ rd xs i < 256 := by
  unfold rd
  rw [List.getD_eq_getElem?_getD]
  cases e : xs[i.toNat]? with
  | none => simp
  | some v => exact h v (List.mem_of_getElem? e)

theorem pick_ok (k : Nat) (xs : List Int) (p n : Int) (hx : codeOk xs) (hp : 0 ≤ p) (hp' : p ≤ 1000000) (hn : 1 ≤ n) (hn' : n ≤ 1000) :
    ∃ r, spec_l6Rd_pick.f (k + 1) xs p n = some (r, p + 1) ∧ 0 ≤ r ∧ r < n := by
  have e1 : wrap64 (p + 1) = p + 1 := w64 (by omega) (by omega)
  have e2 : wrap64 (p + 1 - 1) = p := by rw [show p + 1 - 1 = p by omega]; exact w64 (by omega) (by omega)
  have hl := hx.1
  unfold spec_l6Rd_pick.f
  rw [if_neg (by omega), e1]
  simp only [spec_l6Rd_pick.j0, e2]
  by_cases h0 : (xs.length : Int) = 0
  · rw [if_pos (by simpa using h0)]
    exact ⟨0, rfl, by omega, by omega⟩
  · have hL : 1 ≤ (xs.length : Int) := by omega
    rw [if_neg (by simpa using h0)]
    by_cases hlt : p < (xs.length : Int)
    · rw [if_pos hlt, if_pos hp, if_neg (by omega)]
      have hb := rd_byte hx.2 p
      rw [w64 (n := rd xs p) (by omega) (by omega)]
      exact ⟨_, rfl, tmod_range _ _ hb.1 hn⟩
    · have e3 : wrap64 (p * 7) = p * 7 := w64 (by omega) (by omega)
      have e4 : wrap64 (p * 7 + 3) = p * 7 + 3 := w64 (by omega) (by omega)
      have t1 := tmod_range p xs.length hp hL
      have t2 := tmod_range (p * 7 + 3) xs.length (by omega) hL
      rw [if_neg hlt, if_neg h0, if_pos t1.1, if_pos t1.2, e3, e4, if_pos t2.1, if_pos t2.2, if_neg (by omega)]
      have b1 := rd_byte hx.2 (Int.tmod p xs.length)
      have b2 := rd_byte hx.2 (Int.tmod (p * 7 + 3) xs.length)
      generalize rd xs (Int.tmod p xs.length) = c1 at b1
      generalize rd xs (Int.tmod (p * 7 + 3) xs.length) = c2 at b2
      have hd : 0 ≤ Int.tdiv p xs.length ∧ Int.tdiv p xs.length ≤ p := by
        rw [Int.tdiv_eq_ediv_of_nonneg hp]
        exact ⟨Int.ediv_nonneg hp (by omega), Int.ediv_le_self _ hp⟩
      generalize Int.tdiv p xs.length = d at hd
      rw [w64 (n := c1) (by omega) (by omega), w64 (n := c2) (by omega) (by omega), w64 (n := d) (by omega) (by omega), w64 (n := c1 * 131) (by omega) (by omega), w64 (n := c2 * 1117) (by omega) (by omega), w64 (n := c1 * 131 + c2 * 1117) (by omega) (by omega), w64 (n := p * 29) (by omega) (by omega), w64 (n := c1 * 131 + c2 * 1117 + p * 29) (by omega) (by omega), w64 (n := d * 53) (by omega) (by omega), w64 (n := c1 * 131 + c2 * 1117 + p * 29 + d * 53) (by omega) (by omega)]
      have hX : 0 ≤ c1 * 131 + c2 * 1117 + p * 29 + d * 53 ∧ c1 * 131 + c2 * 1117 + p * 29 + d * 53 ≤ 1000000000 := by omega
      generalize c1 * 131 + c2 * 1117 + p * 29 + d * 53 = X at hX
      have hq : 0 ≤ Int.tdiv X 64 ∧ Int.tdiv X 64 ≤ X := by
        rw [Int.tdiv_eq_ediv_of_nonneg hX.1]
        exact ⟨Int.ediv_nonneg hX.1 (by omega), Int.ediv_le_self _ hX.1⟩
      generalize Int.tdiv X 64 = q at hq
      rw [w64 (n := q) (by omega) (by omega)]
      exact ⟨_, rfl, tmod_range _ _ (xor_nonneg X q hX.1 (by omega) hq.1 (by omega)) hn⟩

theorem of_ok (k : Nat) (xs : List Int) (p : Int) (l : List ByteArray) (hx : codeOk xs) (hp : 0 ≤ p) (hp' : p ≤ 1000000) (hn : 1 ≤ l.length) (hn' : l.length ≤ 1000) :
    ∃ r, spec_l6Rd_of.f (k + 1) xs p l = some (r, p + 1) ∧ r ∈ l := by
  obtain ⟨i, hi, h0, h1⟩ := pick_ok k xs p l.length hx hp hp' (by omega) (by omega)
  unfold spec_l6Rd_of.f
  rw [hi]
  simp only [Option.bind_some]
  rw [if_pos h0, if_pos h1]
  refine ⟨_, rfl, ?_⟩
  unfold rdOf
  rw [List.getD_eq_getElem?_getD, List.getElem?_eq_getElem (by omega)]
  exact List.getElem_mem _

/-- Names are short. -/
def short (l : List S34) : Prop := ∀ x ∈ l, x.f0.size ≤ 7
theorem refF_mem (y : S34) : ∀ (l : List S34) (d : Bool), ∀ x ∈ refF y l d, x ∈ l ∨ x = y
  | [], true, x, h => by simp [refF] at h
  | [], false, x, h => by simp [refF] at h; exact .inr h
  | z :: r, true, x, h => by
    rw [refF] at h
    split at h
    · exact (refF_mem y r true x h).imp (List.mem_cons_of_mem _) id
    · rcases List.mem_cons.1 h with h | h
      · exact .inl (by rw [h]; exact List.mem_cons_self)
      · exact (refF_mem y r true x h).imp (List.mem_cons_of_mem _) id
  | z :: r, false, x, h => by
    rw [refF] at h
    split at h
    · rcases List.mem_cons.1 h with h | h
      · exact .inl (by rw [h]; exact List.mem_cons_self)
      · exact (refF_mem y r false x h).imp (List.mem_cons_of_mem _) id
    · split at h
      · rcases List.mem_cons.1 h with h | h
        · exact .inr h
        · exact (refF_mem y r true x h).imp (List.mem_cons_of_mem _) id
      · rcases List.mem_cons.1 h with h | h
        · exact .inr h
        · rcases List.mem_cons.1 h with h | h
          · exact .inl (by rw [h]; exact List.mem_cons_self)
          · exact (refF_mem y r true x h).imp (List.mem_cons_of_mem _) id
/-- The reference's GroupsPut, whatever it is given. -/
theorem spec_put (K : Nat) (a : List S34) (y : S34) (hM : ∀ x ∈ a, x.f0.size ≤ 1048576) (hy : y.f0.size ≤ 1048576) (hl : a.length ≤ 1048576) (hK : 10000000 ≤ K) :
    ∃ (R : List S34) (ok : Bool), spec_GroupsPut.f K a y.f0 y.f1 = some (R, ok) ∧ R.length ≤ 8 ∧ (∀ x ∈ R, x ∈ a ∨ x = y) ∧ (ok = true → vl a ∧ gv y ∧ R = putL a y) := by
  obtain ⟨va, hva, iva⟩ := spec_vl a K hM (by omega) (by omega)
  obtain ⟨vg, hvg, ivg⟩ := spec_gv y K (by omega) (by omega)
  obtain ⟨k, rfl⟩ : ∃ k, K = k + 1 := ⟨K - 1, by omega⟩
  unfold spec_GroupsPut.f
  rw [hva]
  cases va with
  | false => exact ⟨[], false, by simp [spec_GroupsPut.j0], by simp, by simp, by simp⟩
  | true =>
    cases vg with
    | false => exact ⟨[], false, by simp [hvg, spec_GroupsPut.j0], by simp, by simp, by simp⟩
    | true =>
      have hv := iva.1 rfl
      simp only [Option.bind_some, if_true, hvg, Bool.not_true]
      rw [spec_GroupsPut.j0, if_neg (by decide)]
      have h0 := spec_put_loop y a (by omega) a.length k 0 [] false (by omega) (by omega) (by omega) (by simp)
      rw [show ((0 : Nat) : Int) = 0 from rfl] at h0
      rw [h0, List.nil_append, List.drop_zero]
      refine ⟨(fin8 (refF y a false)).1, (fin8 (refF y a false)).2, rfl, ?_, ?_, ?_⟩
      · unfold fin8
        split
        · simp
        · show (refF y a false).length ≤ 8
          omega
      · unfold fin8
        split
        · simp
        · exact refF_mem y a false
      · intro hok
        refine ⟨hv, ivg.1 rfl, ?_⟩
        rw [putL_ref y a (vl_pair hv)]
        unfold fin8 at hok ⊢
        split
        · rename_i h; rw [if_pos h] at hok; cases hok
        · rfl

theorem names_short {r : ByteArray} {l : List ByteArray} (h : r ∈ l) (hl : ∀ x ∈ l, x.size ≤ 7) : r.size ≤ 7 := hl r h
theorem short_rd {l : List S34} (h : short l) (i : Int) : (rd_T34 l i).f0.size ≤ 7 := by
  unfold rd_T34
  rw [List.getD_eq_getElem?_getD]
  cases e : l[i.toNat]? with
  | none => exact Nat.zero_le _
  | some v => exact h v (List.mem_of_getElem? e)

/-- The last part of the draw of groups. -/
theorem groups_end (k : Nat) (xs : List Int) (p : Int) (x3 : List S34) (b : Bool) (hx : codeOk xs) (hp : 0 ≤ p) (hp' : p ≤ 900000) (h8 : x3.length ≤ 8) (hs : short x3) (hb : b = true → 1 ≤ x3.length) :
    ∃ L q, spec_l92Groups.j1 (k + 2) x3 b xs p = some (L, q) ∧ L.length ≤ 8 ∧ short L ∧ p ≤ q ∧ q ≤ p + 2 := by
  rw [spec_l92Groups.j1]
  cases b with
  | false => exact ⟨x3, p, by simp, h8, hs, by omega, by omega⟩
  | true =>
    obtain ⟨i, hi, h0, h1⟩ := pick_ok k xs p x3.length hx hp (by omega) (by have := hb rfl; omega) (by omega)
    obtain ⟨r, hr, hm⟩ := of_ok k xs (p + 1) [(⟨#[]⟩ : ByteArray), (⟨#[90]⟩ : ByteArray), (⟨#[97, 98, 99, 100, 101, 102, 103]⟩ : ByteArray)] hx (by omega) (by omega) (by simp) (by simp)
    rw [if_pos rfl, hi]
    simp only [Option.bind_some]
    rw [hr]
    simp only [Option.bind_some]
    rw [if_pos h0, if_pos h1]
    refine ⟨_, _, rfl, by simpa using h8, ?_, by omega, by omega⟩
    intro x hx'
    rcases List.mem_or_eq_of_mem_set hx' with h | h
    · exact hs x h
    · rw [h]
      simp only [List.mem_cons, List.not_mem_nil, or_false] at hm
      have h7 : r.size ≤ 7 := by rcases hm with rfl | rfl | rfl <;> decide
      exact h7

theorem groups_loop (xs : List Int) (n : Int) (hx : codeOk xs) (hn : n ≤ 6) : ∀ (m K : Nat) (i p : Int) (x3 : List S34), n - i ≤ m → 0 ≤ i → i ≤ 6 → 0 ≤ p → p ≤ 800000 + 2 * i → x3.length ≤ 8 → short x3 → m + 20000000 ≤ K →
    ∃ L q, spec_l92Groups.l0 K x3 n i xs p = some (L, q) ∧ L.length ≤ 8 ∧ short L ∧ p ≤ q ∧ q ≤ p + 2 * m + 3
  | m, 0, i, p, x3, _, _, _, _, _, _, _, h => absurd h (by omega)
  | m, 1, i, p, x3, _, _, _, _, _, _, _, h => absurd h (by omega)
  | m, 2, i, p, x3, _, _, _, _, _, _, _, h => absurd h (by omega)
  | m, K + 3, i, p, x3, hm, hi, hi6, hp, hp', h8, hs, hK => by
    rw [spec_l92Groups.l0]
    by_cases c : i < n
    · obtain ⟨r, hr, hmem⟩ := of_ok (K + 1) xs p [(⟨#[97]⟩ : ByteArray), (⟨#[98, 101, 101]⟩ : ByteArray), (⟨#[99, 97, 116]⟩ : ByteArray), (⟨#[100, 111, 103]⟩ : ByteArray), (⟨#[101, 109, 117]⟩ : ByteArray), (⟨#[102, 111, 120]⟩ : ByteArray), (⟨#[103, 110, 117]⟩ : ByteArray), (⟨#[104, 101, 110]⟩ : ByteArray)] hx hp (by omega) (by simp) (by simp)
      have hr7 : r.size ≤ 7 := by
        simp only [List.mem_cons, List.not_mem_nil, or_false] at hmem
        rcases hmem with rfl | rfl | rfl | rfl | rfl | rfl | rfl | rfl <;> decide
      obtain ⟨g, hg, g0, g1⟩ := pick_ok (K + 1) xs (p + 1) 20 hx (by omega) (by omega) (by omega) (by omega)
      obtain ⟨R, ok, hR, hR8, hRm, _⟩ := spec_put (K + 2) x3 ⟨r, g⟩ (fun x h => by have := hs x h; omega) (by show r.size ≤ _; omega) (by omega) (by omega)
      rw [if_pos c, hr]
      simp only [Option.bind_some]
      rw [hg]
      simp only [Option.bind_some]
      rw [show spec_GroupsPut.f (K + 2) x3 r g = _ from hR]
      simp only [Option.bind_some]
      have hRs : short R := fun x h => (hRm x h).elim (hs x) (fun e => by rw [e]; exact hr7)
      rw [show wrap64 (i + 1) = i + 1 from w64 (by omega) (by omega), show p + 1 + 1 = p + 2 by omega]
      cases ok with
      | true =>
        rw [if_pos rfl]
        obtain ⟨L, q, e1, e2, e3, e4, e5⟩ := groups_loop xs n hx hn (m - 1) (K + 2) (i + 1) (p + 2) R (by omega) (by omega) (by omega) (by omega) (by omega) hR8 hRs (by omega)
        exact ⟨L, q, e1, e2, e3, by omega, by omega⟩
      | false =>
        rw [if_neg (by decide)]
        obtain ⟨L, q, e1, e2, e3, e4, e5⟩ := groups_loop xs n hx hn (m - 1) (K + 2) (i + 1) (p + 2) x3 (by omega) (by omega) (by omega) (by omega) (by omega) h8 hs (by omega)
        exact ⟨L, q, e1, e2, e3, by omega, by omega⟩
    · rw [if_neg c]
      by_cases c0 : (x3.length : Int) > 0
      · obtain ⟨g, hg, g0, g1⟩ := pick_ok (K + 1) xs p 24 hx (by omega) (by omega) (by omega) (by omega)
        rw [if_pos c0, hg]
        simp only [Option.bind_some]
        obtain ⟨L, q, e1, e2, e3, e4, e5⟩ := groups_end K xs (p + 1) x3 (g == 0) hx (by omega) (by omega) h8 hs (fun _ => by omega)
        exact ⟨L, q, e1, e2, e3, by omega, by omega⟩
      · rw [if_neg c0]
        obtain ⟨L, q, e1, e2, e3, e4, e5⟩ := groups_end K xs p x3 false hx (by omega) (by omega) h8 hs (fun h => by cases h)
        exact ⟨L, q, e1, e2, e3, by omega, by omega⟩

theorem groups_ok (K : Nat) (xs : List Int) (p : Int) (hx : codeOk xs) (hp : 0 ≤ p) (hp' : p ≤ 700000) (hK : 20000010 ≤ K) :
    ∃ L q, spec_l92Groups.f K xs p = some (L, q) ∧ L.length ≤ 8 ∧ short L ∧ p ≤ q ∧ q ≤ p + 20 := by
  obtain ⟨k, rfl⟩ : ∃ k, K = k + 1 := ⟨K - 1, by omega⟩
  obtain ⟨n, hn, n0, n1⟩ := pick_ok k xs p 6 hx hp (by omega) (by omega) (by omega)
  unfold spec_l92Groups.f
  rw [hn]
  simp only [Option.bind_some]
  obtain ⟨L, q, e1, e2, e3, e4, e5⟩ := groups_loop xs n hx (by omega) 6 (k + 1) 0 (p + 1) [] (by omega) (by omega) (by omega) (by omega) (by omega) (by simp) (fun x h => by cases h) (by omega)
  exact ⟨L, q, e1, e2, e3, by omega, by omega⟩

theorem open_ok (l0 : List Int) (hx : ∀ x ∈ l0, 0 ≤ x ∧ x < 256) : ∃ xs, spec_l6Open.f l0 = some (xs, 0) ∧ codeOk xs := by
  unfold spec_l6Open.f
  by_cases h : (l0.length : Int) > 2000
  · rw [if_pos h, if_pos (by omega)]
    exact ⟨_, rfl, by simp; omega, fun x hm => hx x (List.mem_of_mem_take hm)⟩
  · rw [if_neg h]
    exact ⟨_, rfl, by omega, hx⟩

/-- The draw of a list and a group. -/
theorem draw_put (K : Nat) (l0 : List Int) (hx : ∀ x ∈ l0, 0 ≤ x ∧ x < 256) (hK : 20000010 ≤ K) :
    ∃ L n v, spec_DrawGroupsPut.f K l0 = some (L, n, v) ∧ L.length ≤ 8 ∧ short L ∧ n.size ≤ 7 ∧ -1000 ≤ v ∧ v ≤ 1000 := by
  obtain ⟨xs, ho, hc⟩ := open_ok l0 hx
  obtain ⟨L, q, hL, h8, hs, q0, q1⟩ := groups_ok K xs 0 hc (by omega) (by omega) hK
  obtain ⟨k, rfl⟩ : ∃ k, K = k + 1 := ⟨K - 1, by omega⟩
  obtain ⟨r, hr, hm⟩ := of_ok k xs q [(⟨#[97]⟩ : ByteArray), (⟨#[98, 101, 101]⟩ : ByteArray), (⟨#[99, 97, 116]⟩ : ByteArray), (⟨#[97, 110, 116]⟩ : ByteArray), (⟨#[122, 111, 111]⟩ : ByteArray), (⟨#[66, 97, 100]⟩ : ByteArray), (⟨#[109]⟩ : ByteArray)] hc (by omega) (by omega) (by simp) (by simp)
  obtain ⟨a, ha, a0, a1⟩ := pick_ok k xs (q + 1) 30 hc (by omega) (by omega) (by omega) (by omega)
  obtain ⟨b, hb, b0, b1⟩ := pick_ok k xs (q + 1 + 1) 24 hc (by omega) (by omega) (by omega) (by omega)
  unfold spec_DrawGroupsPut.f
  rw [ho]
  simp only [Option.bind_some]
  rw [hL]
  simp only [Option.bind_some]
  rw [hr]
  simp only [Option.bind_some]
  rw [ha]
  simp only [Option.bind_some]
  rw [hb]
  simp only [Option.bind_some]
  have hd : 0 ≤ Int.tdiv b 23 ∧ Int.tdiv b 23 ≤ b := by
    rw [Int.tdiv_eq_ediv_of_nonneg b0]
    exact ⟨Int.ediv_nonneg b0 (by omega), Int.ediv_le_self _ b0⟩
  generalize Int.tdiv b 23 = d at hd
  rw [w64 (n := d) (by omega) (by omega), w64 (n := d * 31) (by omega) (by omega), w64 (n := a - d * 31) (by omega) (by omega)]
  refine ⟨L, r, _, rfl, h8, hs, ?_, by omega, by omega⟩
  simp only [List.mem_cons, List.not_mem_nil, or_false] at hm
  rcases hm with rfl | rfl | rfl | rfl | rfl | rfl | rfl <;> decide
end Go.Proofs.Ytlhbclblehmdbaa.PFnExactGroupsPut
