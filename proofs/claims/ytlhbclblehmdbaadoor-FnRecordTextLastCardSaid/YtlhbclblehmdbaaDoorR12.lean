/- The plain law of FnRecordTextLast: the two lines are equal, and the last sign is a hyphen where the value is missing. -/
import Derived.Test.YtlhbclblehmdbaaDoorR11
set_option linter.unusedVariables false
set_option linter.unusedSimpArgs false
namespace Go.Proofs.YtlhbclblehmdbaaDoor.PFnRecordTextLast
open Go.RowKit Go.Proofs.YtlhbclblehmdbaaDoorW.PrintWords Go.Proofs.YtlhbclblehmdbaaDoorW.PrintLast Go.Proofs.YtlhbclblehmdbaaDoorW.PrintMore

theorem w64 {n : Int} (h0 : -9223372036854775808 ≤ n) (h1 : n ≤ 9223372036854775807) : wrap64 n = n := by unfold wrap64; omega
/-- Bytes, not too many. -/
def codeOk (xs : List Int) : Prop := xs.length ≤ 2000 ∧ ∀ x ∈ xs, 0 ≤ x ∧ x < 256

theorem xor_nonneg (a b : Int) (ha : 0 ≤ a) (ha' : a < 4611686018427387904) (hb : 0 ≤ b) (hb' : b < 4611686018427387904) : 0 ≤ bits .xor .i64 a b := by
  obtain ⟨x, rfl⟩ := Int.eq_ofNat_of_zero_le ha
  obtain ⟨y, rfl⟩ := Int.eq_ofNat_of_zero_le hb
  have hx : x < 2 ^ 62 := by omega
  have hy : y < 2 ^ 62 := by omega
  have h3 := Nat.xor_lt_two_pow hx hy
  have h1 : (BitVec.ofInt 64 (x : Int)).toNat = x := by
    rw [BitVec.ofInt_natCast, BitVec.toNat_ofNat]; exact Nat.mod_eq_of_lt (by omega)
  have h2 : (BitVec.ofInt 64 (y : Int)).toNat = y := by
    rw [BitVec.ofInt_natCast, BitVec.toNat_ofNat]; exact Nat.mod_eq_of_lt (by omega)
  have e : bits .xor .i64 (x : Int) (y : Int) = IntKind.i64.wrap ((x ^^^ y : Nat) : Int) := by
    show IntKind.i64.wrap ((BitVec.ofInt 64 (x : Int) ^^^ BitVec.ofInt 64 (y : Int)).toNat : Int) = _
    rw [BitVec.toNat_xor, h1, h2]
  rw [e, IntKind.wrap_i64]
  generalize x ^^^ y = z at h3
  omega

theorem tmod_range (a n : Int) (ha : 0 ≤ a) (hn : 1 ≤ n) : 0 ≤ Int.tmod a n ∧ Int.tmod a n < n := by
  rw [Int.tmod_eq_emod_of_nonneg ha]
  exact ⟨Int.emod_nonneg _ (by omega), Int.emod_lt_of_pos _ (by omega)⟩

theorem rd_byte {xs : List Int} (h : ∀ x ∈ xs, 0 ≤ x ∧ x < 256) (i : Int) : 0 ≤ rd xs i ∧ rd xs i < 256 := by
  unfold rd
  rw [List.getD_eq_getElem?_getD]
  cases e : xs[i.toNat]? with
  | none => simp
  | some v => exact h v (List.mem_of_getElem? e)

theorem pick_ok (k : Nat) (xs : List Int) (p n : Int) (hx : codeOk xs) (hp : 0 ≤ p) (hp' : p ≤ 1000000) (hn : 1 ≤ n) (hn' : n ≤ 1000) :
    ∃ r, spec_l6Rd_pick.f (k + 1) xs p n = some (r, p + 1) ∧ 0 ≤ r ∧ r < n := by
  have e1 : wrap64 (p + 1) = p + 1 := w64 (by omega) (by omega)
  have e2 : wrap64 (p + 1 - 1) = p := by rw [show p + 1 - 1 = p by omega]; exact w64 (by omega) (by omega)
  have hl := hx.1
  unfold spec_l6Rd_pick.f
  rw [if_neg (by omega), e1]
  simp only [spec_l6Rd_pick.j0, e2]
  by_cases h0 : (xs.length : Int) = 0
  · rw [if_pos (by simpa using h0)]
    exact ⟨0, rfl, by omega, by omega⟩
  · have hL : 1 ≤ (xs.length : Int) := by omega
    rw [if_neg (by simpa using h0)]
    by_cases hlt : p < (xs.length : Int)
    · rw [if_pos hlt, if_pos hp, if_neg (by omega)]
      have hb := rd_byte hx.2 p
      rw [w64 (n := rd xs p) (by omega) (by omega)]
      exact ⟨_, rfl, tmod_range _ _ hb.1 hn⟩
    · have e3 : wrap64 (p * 7) = p * 7 := w64 (by omega) (by omega)
      have e4 : wrap64 (p * 7 + 3) = p * 7 + 3 := w64 (by omega) (by omega)
      have t1 := tmod_range p xs.length hp hL
      have t2 := tmod_range (p * 7 + 3) xs.length (by omega) hL
      rw [if_neg hlt, if_neg h0, if_pos t1.1, if_pos t1.2, e3, e4, if_pos t2.1, if_pos t2.2, if_neg (by omega)]
      have b1 := rd_byte hx.2 (Int.tmod p xs.length)
      have b2 := rd_byte hx.2 (Int.tmod (p * 7 + 3) xs.length)
      generalize rd xs (Int.tmod p xs.length) = c1 at b1
      generalize rd xs (Int.tmod (p * 7 + 3) xs.length) = c2 at b2
      have hd : 0 ≤ Int.tdiv p xs.length ∧ Int.tdiv p xs.length ≤ p := by
        rw [Int.tdiv_eq_ediv_of_nonneg hp]
        exact ⟨Int.ediv_nonneg hp (by omega), Int.ediv_le_self _ hp⟩
      generalize Int.tdiv p xs.length = d at hd
      rw [w64 (n := c1) (by omega) (by omega), w64 (n := c2) (by omega) (by omega), w64 (n := d) (by omega) (by omega), w64 (n := c1 * 131) (by omega) (by omega), w64 (n := c2 * 1117) (by omega) (by omega), w64 (n := c1 * 131 + c2 * 1117) (by omega) (by omega), w64 (n := p * 29) (by omega) (by omega), w64 (n := c1 * 131 + c2 * 1117 + p * 29) (by omega) (by omega), w64 (n := d * 53) (by omega) (by omega), w64 (n := c1 * 131 + c2 * 1117 + p * 29 + d * 53) (by omega) (by omega)]
      have hX : 0 ≤ c1 * 131 + c2 * 1117 + p * 29 + d * 53 ∧ c1 * 131 + c2 * 1117 + p * 29 + d * 53 ≤ 1000000000 := by omega
      generalize c1 * 131 + c2 * 1117 + p * 29 + d * 53 = X at hX
      have hq : 0 ≤ Int.tdiv X 64 ∧ Int.tdiv X 64 ≤ X := by
        rw [Int.tdiv_eq_ediv_of_nonneg hX.1]
        exact ⟨Int.ediv_nonneg hX.1 (by omega), Int.ediv_le_self _ hX.1⟩
      generalize Int.tdiv X 64 = q at hq
      rw [w64 (n := q) (by omega) (by omega)]
      exact ⟨_, rfl, tmod_range _ _ (xor_nonneg X q hX.1 (by omega) hq.1 (by omega)) hn⟩

theorem open_ok (l0 : List Int) (hx : ∀ x ∈ l0, 0 ≤ x ∧ x < 256) : ∃ xs, spec_l6Open.f l0 = some (xs, 0) ∧ codeOk xs := by
  unfold spec_l6Open.f
  by_cases h : (l0.length : Int) > 2000
  · rw [if_pos h, if_pos (by omega)]
    exact ⟨_, rfl, by simp; omega, fun x hm => hx x (List.mem_of_mem_take hm)⟩
  · rw [if_neg h]
    exact ⟨_, rfl, by omega, hx⟩

theorem step64 {i : Int} {n : Nat} (h0 : 0 ≤ i) (h1 : i < (n : Int)) (hn : n ≤ 9223372036854775807) : wrap64 (i + 1) = i + 1 := w64 (by omega) (by omega)
theorem drop_gen {α : Type} (l : List α) (z : α) (i : Int) (h0 : 0 ≤ i) (h1 : i < (l.length : Int)) : l.drop i.toNat = l.getD i.toNat z :: l.drop (i + 1).toNat := by
  have h : i.toNat < l.length := by omega
  rw [List.drop_eq_getElem_cons h, List.getD_eq_getElem?_getD, List.getElem?_eq_getElem h, show (i + 1).toNat = i.toNat + 1 from by omega]
  rfl
theorem drop_end {α : Type} (l : List α) (i : Int) (h : ¬ i < (l.length : Int)) : l.drop i.toNat = [] := List.drop_eq_nil_of_le (by omega)
def byteB (n : Int) : Bool := decide (0 ≤ n) && decide (n ≤ 255)
def bytesB (l : List Int) : Bool := l.all byteB
def partB (has : Bool) (l : List Int) : Bool := (has || l.length == 0) && (bytesB l && decide (l.length ≤ 12))
def inB (n : Int) : Bool := decide (0 ≤ n) && decide (n ≤ 99999)
def validB (o t : Int) (hk : Bool) (k : List Int) (hv : Bool) (v : List Int) : Bool := inB o && (inB t && (partB hk k && partB hv v))

theorem l6In (n a b : Int) : spec_l6In.f n a b = some (decide (a ≤ n) && decide (n ≤ b)) := by
  unfold spec_l6In.f
  by_cases h : n ≥ a
  · rw [if_pos h]; simp [show a ≤ n from h]
  · rw [if_neg h]; simp [show ¬ a ≤ n from h]
theorem within (n a b : Int) : impl_within.f n a b = some (decide (a ≤ n) && decide (n ≤ b)) := by
  unfold impl_within.f
  by_cases h : n ≥ a
  · rw [if_pos h]; simp [show a ≤ n from h]
  · rw [if_neg h]; simp [show ¬ a ≤ n from h]
theorem isByte (n : Int) : impl_isByte.f n = some (byteB n) := by
  unfold impl_isByte.f byteB
  by_cases h : n ≥ 0
  · rw [if_pos h]; simp [show 0 ≤ n from h]
  · rw [if_neg h]; simp [show ¬ 0 ≤ n from h]

theorem l1Ok_loop (l : List Int) (hl : l.length ≤ 9223372036854775807) (d : Nat) : ∀ (i : Int) (K : Nat), 0 ≤ i → (l.length : Int) - i = d → d < K → spec_l1Ok.l0 K l i = some (bytesB (l.drop i.toNat)) := by
  induction d with
  | zero =>
    intro i K h0 hd hK
    obtain ⟨K, rfl⟩ : ∃ m, K = m + 1 := ⟨K - 1, by omega⟩
    simp only [spec_l1Ok.l0]
    rw [if_neg (by omega), drop_end l i (by omega)]; rfl
  | succ d ih =>
    intro i K h0 hd hK
    obtain ⟨K, rfl⟩ : ∃ m, K = m + 1 := ⟨K - 1, by omega⟩
    have hlt : i < (l.length : Int) := by omega
    simp only [spec_l1Ok.l0]
    rw [if_pos hlt, if_pos h0, l6In, drop_gen l 0 i h0 hlt]
    simp only [Option.bind_some]
    have e : (decide (0 ≤ rd l i) && decide (rd l i ≤ 255)) = byteB (l.getD i.toNat 0) := rfl
    rw [e]
    by_cases c : byteB (l.getD i.toNat 0) = true
    · rw [if_pos c, step64 h0 hlt hl, ih (i + 1) K (by omega) (by omega) (by omega)]
      simp only [bytesB, List.all_cons]
      rw [c, Bool.true_and]
    · rw [if_neg c]
      simp only [bytesB, List.all_cons]
      rw [Bool.eq_false_iff.2 c, Bool.false_and]
theorem l1Ok (l : List Int) (K : Nat) (hl : l.length ≤ 9223372036854775807) (hK : l.length < K) : spec_l1Ok.f K l = some (bytesB l) := by
  have h := l1Ok_loop l hl l.length 0 K (by omega) (by omega) hK
  simpa [spec_l1Ok.f] using h
theorem allBytes_loop (l : List Int) (hl : l.length ≤ 9223372036854775807) (d : Nat) : ∀ (i : Int) (K : Nat), 0 ≤ i → (l.length : Int) - i = d → d < K → impl_allBytes.l0 K l (l.length : Int) i = some (bytesB (l.drop i.toNat)) := by
  induction d with
  | zero =>
    intro i K h0 hd hK
    obtain ⟨K, rfl⟩ : ∃ m, K = m + 1 := ⟨K - 1, by omega⟩
    simp only [impl_allBytes.l0]
    rw [if_neg (by omega), drop_end l i (by omega)]; rfl
  | succ d ih =>
    intro i K h0 hd hK
    obtain ⟨K, rfl⟩ : ∃ m, K = m + 1 := ⟨K - 1, by omega⟩
    have hlt : i < (l.length : Int) := by omega
    simp only [impl_allBytes.l0]
    rw [if_pos hlt, if_pos h0, if_pos hlt, isByte, drop_gen l 0 i h0 hlt]
    simp only [Option.bind_some]
    have e : byteB (rd l i) = byteB (l.getD i.toNat 0) := rfl
    rw [e]
    by_cases c : byteB (l.getD i.toNat 0) = true
    · rw [if_pos c, step64 h0 hlt hl, ih (i + 1) K (by omega) (by omega) (by omega)]
      simp only [bytesB, List.all_cons]
      rw [c, Bool.true_and]
    · rw [if_neg c]
      simp only [bytesB, List.all_cons]
      rw [Bool.eq_false_iff.2 c, Bool.false_and]
theorem allBytes (l : List Int) (K : Nat) (hl : l.length ≤ 9223372036854775807) (hK : l.length < K) : impl_allBytes.f K l = some (bytesB l) := by
  have h := allBytes_loop l hl l.length 0 K (by omega) (by omega) hK
  simpa [impl_allBytes.f] using h

theorem l3Part (has : Bool) (l : List Int) (K : Nat) (hl : l.length ≤ 9223372036854775807) (hK : l.length < K) : spec_l3Part.f K has l = some (partB has l) := by
  unfold spec_l3Part.f partB
  rw [l1Ok l K hl hK]
  simp only [Option.bind_some]
  have e : decide ((l.length : Int) ≤ 12) = decide (l.length ≤ 12) := decide_eq_decide.2 (by omega)
  rw [e]
  cases has with
  | true =>
    rw [if_pos rfl]
    cases bytesB l <;> simp
  | false =>
    rw [if_neg (by simp)]
    by_cases c : (l.length : Int) = 0
    · rw [if_pos c]
      have c' : (l.length == 0) = true := by simpa using (by omega : l.length = 0)
      rw [c']
      cases bytesB l <;> simp
    · rw [if_neg c]
      have c' : (l.length == 0) = false := by
        have : l.length ≠ 0 := fun h => c (by rw [h]; rfl)
        simpa using this
      rw [c']; rfl
theorem partValid (has : Bool) (l : List Int) (K : Nat) (hl : l.length ≤ 9223372036854775807) (hK : l.length < K) : impl_partValid.f K has l = some (partB has l) := by
  unfold impl_partValid.f partB
  cases has with
  | true =>
    rw [if_pos rfl]
    by_cases c : (l.length : Int) ≤ 12
    · rw [if_pos c, allBytes l K hl hK]
      have c' : decide (l.length ≤ 12) = true := decide_eq_true (by omega)
      rw [c']; simp
    · rw [if_neg c]
      have c' : decide (l.length ≤ 12) = false := decide_eq_false (by omega)
      rw [c']; simp
  | false =>
    rw [if_neg (by simp)]
    have e : ((l.length : Int) == 0) = (l.length == 0) := by
      rw [Bool.eq_iff_iff]; simp
    rw [e]
    by_cases c : l.length = 0
    · obtain rfl := List.eq_nil_of_length_eq_zero c
      simp [bytesB]
    · have c' : (l.length == 0) = false := by simpa using c
      rw [c']; rfl
theorem specValid (o t : Int) (hk : Bool) (k : List Int) (hv : Bool) (v : List Int) (K : Nat) (h3 : k.length ≤ 9223372036854775807) (h5 : v.length ≤ 9223372036854775807) (hK : k.length + v.length < K) : spec_RecordValid.f K o t hk k hv v = some (validB o t hk k hv v) := by
  unfold spec_RecordValid.f
  rw [l6In, l6In, l3Part _ _ K h3 (by omega), l3Part _ _ K h5 (by omega)]
  simp only [Option.bind_some]
  show (if inB o = true then (if inB t = true then (if partB hk k = true then some (partB hv v) else some false) else some false) else some false) = some (validB o t hk k hv v)
  unfold validB
  cases inB o <;> cases inB t <;> cases partB hk k <;> simp
theorem implValid (o t : Int) (hk : Bool) (k : List Int) (hv : Bool) (v : List Int) (K : Nat) (h3 : k.length ≤ 9223372036854775807) (h5 : v.length ≤ 9223372036854775807) (hK : k.length + v.length < K) : impl_RecordValid.f K o t hk k hv v = some (validB o t hk k hv v) := by
  unfold impl_RecordValid.f impl_baseValid.f
  rw [within, within, partValid _ _ K h3 (by omega), partValid _ _ K h5 (by omega)]
  simp only [Option.bind_some]
  have e : (if (decide (0 ≤ o) && decide (o ≤ 99999)) = true then some (decide (0 ≤ t) && decide (t ≤ 99999)) else some false) = some (inB o && inB t) := by
    show (if inB o = true then some (inB t) else some false) = _
    cases inB o <;> simp
  rw [e]
  simp only [Option.bind_some]
  unfold validB
  cases inB o <;> cases inB t <;> cases partB hk k <;> simp


/-! ### the draw of a record -/
theorem part_loop (xs : List Int) (hx : codeOk xs) (n : Int) (hn : n ≤ 12) : ∀ (m K : Nat) (i p : Int) (l : List Int), n - i ≤ m → 0 ≤ i → i ≤ 12 → 0 ≤ p → p ≤ 10000 + 2 * i → (l.length : Int) ≤ i → m + 2 < K →
    ∃ r q, spec_l91Part.l0 K l n i xs p = some (true, r, q) ∧ r.length ≤ 12 ∧ p ≤ q ∧ q ≤ p + 2 * m
  | m, 0, i, p, l, _, _, _, _, _, _, h => absurd h (by omega)
  | m, 1, i, p, l, _, _, _, _, _, _, h => absurd h (by omega)
  | m, K + 2, i, p, l, hm, hi, hi12, hp, hp', hl, hK => by
    rw [spec_l91Part.l0]
    by_cases c : i < n
    · obtain ⟨a, ha, a0, a1⟩ := pick_ok K xs p 256 hx hp (by omega) (by omega) (by omega)
      obtain ⟨b, hb, b0, b1⟩ := pick_ok K xs (p + 1) 4 hx (by omega) (by omega) (by omega) (by omega)
      rw [if_pos c, ha]
      simp only [Option.bind_some]
      rw [hb]
      simp only [Option.bind_some]
      rw [if_pos b0, if_pos (by simp; omega), if_pos (by omega), w64 (n := i + 1) (by omega) (by omega)]
      obtain ⟨r, q, e, h1, h2, h3⟩ := part_loop xs hx n hn (m - 1) (K + 1) (i + 1) (p + 1 + 1) (l ++ [rd [1, 2, 3, a] b]) (by omega) (by omega) (by omega) (by omega) (by omega) (by simp; omega) (by omega)
      exact ⟨r, q, e, h1, by omega, by omega⟩
    · rw [if_neg c]
      exact ⟨l, p, rfl, by omega, by omega, by omega⟩
theorem part_ok (K : Nat) (xs : List Int) (p : Int) (hx : codeOk xs) (hp : 0 ≤ p) (hp' : p ≤ 9000) (hK : 100 ≤ K) :
    ∃ b l q, spec_l91Part.f K xs p = some (b, l, q) ∧ l.length ≤ 12 ∧ p ≤ q ∧ q ≤ p + 40 := by
  obtain ⟨k, rfl⟩ : ∃ k, K = k + 2 := ⟨K - 2, by omega⟩
  obtain ⟨a, ha, a0, a1⟩ := pick_ok (k + 1) xs p 4 hx hp (by omega) (by omega) (by omega)
  obtain ⟨n, hn, n0, n1⟩ := pick_ok (k + 1) xs (p + 1) 5 hx (by omega) (by omega) (by omega) (by omega)
  obtain ⟨c, hc, c0, c1⟩ := pick_ok (k + 1) xs (p + 1 + 1) 12 hx (by omega) (by omega) (by omega) (by omega)
  unfold spec_l91Part.f
  rw [ha]
  simp only [Option.bind_some]
  by_cases z : a = 0
  · rw [if_pos z]
    exact ⟨false, [], p + 1, rfl, by simp, by omega, by omega⟩
  · rw [if_neg z, hn]
    simp only [Option.bind_some]
    rw [hc]
    simp only [Option.bind_some]
    by_cases z2 : c = 0
    · rw [if_pos z2, spec_l91Part.j0]
      obtain ⟨r, q, e, h1, h2, h3⟩ := part_loop xs hx 12 (by omega) 12 (k + 1) 0 (p + 1 + 1 + 1) [] (by omega) (by omega) (by omega) (by omega) (by omega) (by simp) (by omega)
      exact ⟨true, r, q, e, h1, by omega, by omega⟩
    · rw [if_neg z2, spec_l91Part.j0]
      obtain ⟨r, q, e, h1, h2, h3⟩ := part_loop xs hx n (by omega) 12 (k + 1) 0 (p + 1 + 1 + 1) [] (by omega) (by omega) (by omega) (by omega) (by omega) (by simp) (by omega)
      exact ⟨true, r, q, e, h1, by omega, by omega⟩
theorem record_ok (K : Nat) (xs : List Int) (hx : codeOk xs) (hK : 100 ≤ K) :
    ∃ o t hk k hv v q, spec_l91Record.f K xs 0 = some (o, t, hk, k, hv, v, q) ∧ k.length ≤ 13 ∧ v.length ≤ 13 := by
  obtain ⟨m, rfl⟩ : ∃ m, K = m + 1 := ⟨K - 1, by omega⟩
  obtain ⟨a1, h1, l1, g1⟩ := pick_ok m xs 0 60 hx (by omega) (by omega) (by omega) (by omega)
  obtain ⟨a2, h2, l2, g2⟩ := pick_ok m xs (0 + 1) 250 hx (by omega) (by omega) (by omega) (by omega)
  obtain ⟨a3, h3, l3, g3⟩ := pick_ok m xs (0 + 1 + 1) 2 hx (by omega) (by omega) (by omega) (by omega)
  obtain ⟨a4, h4, l4, g4⟩ := pick_ok m xs (0 + 1 + 1 + 1) 100 hx (by omega) (by omega) (by omega) (by omega)
  obtain ⟨hk, k, q1, e1, k1, p1, r1⟩ := part_ok (m + 1) xs (0 + 1 + 1 + 1 + 1) hx (by omega) (by omega) (by omega)
  obtain ⟨hv, v, q2, e2, k2, p2, r2⟩ := part_ok (m + 1) xs q1 hx (by omega) (by omega) (by omega)
  obtain ⟨a5, h5, l5, g5⟩ := pick_ok m xs q2 40 hx (by omega) (by omega) (by omega) (by omega)
  obtain ⟨a6, h6, l6, g6⟩ := pick_ok m xs (q2 + 1) 3 hx (by omega) (by omega) (by omega) (by omega)
  unfold spec_l91Record.f
  rw [h1]
  simp only [Option.bind_some]
  rw [h2]
  simp only [Option.bind_some]
  rw [h3]
  simp only [Option.bind_some]
  rw [h4]
  simp only [Option.bind_some]
  rw [e1]
  simp only [Option.bind_some]
  rw [e2]
  simp only [Option.bind_some]
  rw [h5]
  simp only [Option.bind_some]
  by_cases z0 : a5 = 0
  · rw [if_pos z0, h6]
    simp only [Option.bind_some]
    rw [if_pos l6, if_pos (by simp; omega)]
    exact ⟨_, _, _, _, _, _, _, rfl, by omega, by omega⟩
  · rw [if_neg z0]
    by_cases z1 : a5 = 1
    · rw [if_pos z1]
      exact ⟨_, _, _, _, _, _, _, rfl, by omega, by omega⟩
    · rw [if_neg z1]
      by_cases z2 : a5 = 2
      · rw [if_pos z2, if_pos (by omega)]
        exact ⟨_, _, _, _, _, _, _, rfl, by omega, by simp; omega⟩
      · rw [if_neg z2]
        exact ⟨_, _, _, _, _, _, _, rfl, by omega, by omega⟩
theorem bytes_wf {l : List Int} (h : ∀ x ∈ l, (Lit.int .u8 x).wf = true) : ∀ x ∈ l, 0 ≤ x ∧ x < 256 := by
  intro x hx
  have := h x hx
  simp [Lit.wf, IntKind.min, IntKind.max, IntKind.bits, IntKind.signed] at this
  omega
theorem draw_rec (K : Nat) (l0 : List Int) (hx : ∀ x ∈ l0, (Lit.int .u8 x).wf = true) (hK : 100 ≤ K) :
    ∃ o t hk k hv v, spec_DrawRecordText.f K l0 = some (o, t, hk, k, hv, v) ∧ k.length ≤ 13 ∧ v.length ≤ 13 := by
  obtain ⟨xs, ho, hc⟩ := open_ok l0 (bytes_wf hx)
  obtain ⟨o, t, hk, k, hv, v, q, e, h1, h2⟩ := record_ok K xs hc hK
  unfold spec_DrawRecordText.f
  rw [ho]
  simp only [Option.bind_some]
  rw [e]
  exact ⟨o, t, hk, k, hv, v, rfl, h1, h2⟩

/-! ### both lines -/
theorem valid_parts {o t : Int} {hk hv : Bool} {k v : List Int} (h : validB o t hk k hv v = true) : inOff o = true ∧ inOff t = true ∧ bytesB k = true ∧ bytesB v = true ∧ pOkB k = true ∧ pOkB v = true := by
  unfold validB partB inB at h
  simp only [Bool.and_eq_true] at h
  obtain ⟨ho, ht, ⟨_, hk1, hk2⟩, ⟨_, hv1, hv2⟩⟩ := h
  have e : ∀ l : List Int, bytesB l = true → l.length ≤ 12 → pOkB l = true := fun l h1 h2 => by
    refine pOkB_iff.2 ⟨h2, fun b hb => ?_⟩
    unfold bytesB byteB at h1
    have := List.all_eq_true.1 h1 b hb
    simpa using this
  refine ⟨by unfold inOff; simp only [Bool.and_eq_true]; exact ho, by unfold inOff; simp only [Bool.and_eq_true]; exact ht, hk1, hv1, e k hk1 (by simpa using hk2), e v hv1 (by simpa using hv2)⟩
theorem both_text (K : Nat) (o t : Int) (hk hv : Bool) (k v : List Int) (lk : k.length ≤ 13) (lv : v.length ≤ 13) (hK : 100 ≤ K) :
    ∃ r : ByteArray, impl_RecordText.f K o t hk k hv v = some r ∧ spec_RecordText.f K o t hk k hv v = some r ∧ (r = ⟨#[]⟩ ∨ r = ⟨(recL o t hk k hv v).toArray⟩ ∧ pOk v ∧ (recL o t hk k hv v).length ≤ 1000) := by
  unfold impl_RecordText.f spec_RecordText.f
  rw [implValid o t hk k hv v K (by omega) (by omega) (by omega), specValid o t hk k hv v K (by omega) (by omega) (by omega)]
  simp only [Option.bind_some]
  cases c : validB o t hk k hv v with
  | false => exact ⟨⟨#[]⟩, rfl, rfl, .inl rfl⟩
  | true =>
    obtain ⟨h1, h2, h3, h4, h5, h6⟩ := valid_parts c
    have w : impl_recordWords.f K o t hk k hv v = some [⟨(Lib.itoa o).toArray⟩, ⟨(Lib.itoa t).toArray⟩, ⟨(partL hk k).toArray⟩, ⟨(partL hv v).toArray⟩] := by
      unfold impl_recordWords.f strconv_Itoa.f impl_partText.f
      rw [if_pos h1, if_pos h2, if_pos h5, if_pos h6, allBytes k K (by omega) (by omega), allBytes v K (by omega) (by omega), h3, h4]
      rfl
    refine ⟨⟨(recL o t hk k hv v).toArray⟩, ?_, ?_, .inr ⟨rfl, pOkB_iff.1 h6, rec_length h1 h2 (pOkB_iff.1 h5) (pOkB_iff.1 h6)⟩⟩
    · rw [if_pos rfl, w]; rfl
    · rw [if_pos rfl, if_pos (by unfold recG; rw [h1, h2, h5, h6]; rfl), l1Ok k K (by omega) (by omega), l1Ok v K (by omega) (by omega), h3, h4]
      rfl
theorem hexd_ne : ∀ q : Nat, q < 16 → hexd q ≠ 45 := by decide
theorem last_part (hv : Bool) (v : List Int) (h : pOk v) : (partL hv v).getLast? = some (if hv = true then (partL hv v).getLast?.getD 0 else 45) ∧ (hv = true → (partL hv v).getLast?.getD 0 ≠ 45) := by
  unfold partL
  cases hv with
  | false => exact ⟨rfl, fun h => by cases h⟩
  | true =>
    simp only [if_true]
    rcases List.eq_nil_or_concat v with rfl | ⟨l, b, rfl⟩
    · exact ⟨rfl, fun _ => by decide⟩
    · rw [List.concat_eq_append, hexL_snoc]
      have e : (120 :: (hexL l ++ [hexd (b / 16).toNat, hexd (b % 16).toNat])).getLast? = some (hexd (b % 16).toNat) := by
        rw [List.getLast?_cons]
        simp
      rw [e]
      exact ⟨rfl, fun _ => hexd_ne _ (by omega)⟩
theorem last_bt (l : List UInt8) (x : UInt8) (h : l.getLast? = some x) : bt (⟨l.toArray⟩ : ByteArray) ((l.length : Int) - 1) = (x.toNat : Int) := by
  have hne : l ≠ [] := fun e => by rw [e] at h; cases h
  have hl : 0 < l.length := List.length_pos_iff.2 hne
  have e : ((l.length : Int) - 1).toNat = l.length - 1 := by omega
  unfold bt
  rw [dif_pos (show ((l.length : Int) - 1).toNat < (⟨l.toArray⟩ : ByteArray).size by show _ < l.toArray.size; rw [List.size_toArray]; omega)]
  have h2 : l[l.length - 1]? = some x := by rw [← List.getLast?_eq_getElem?]; exact h
  have h3 : ((⟨l.toArray⟩ : ByteArray)[((l.length : Int) - 1).toNat]'(by show _ < l.toArray.size; rw [List.size_toArray]; omega)) = x := by
    show l.toArray[((l.length : Int) - 1).toNat]'(by rw [List.size_toArray]; omega) = x
    rw [List.getElem_toArray]
    have := List.getElem?_eq_some_iff.1 h2
    obtain ⟨h4, h5⟩ := this
    simp only [e]
    exact h5
  exact congrArg (fun z : UInt8 => (z.toNat : Int)) h3
theorem last_rec (o t : Int) (hk hv : Bool) (k v : List Int) (h : pOk v) : ∃ x : UInt8, (recL o t hk k hv v).getLast? = some x ∧ ((x = 45) ↔ hv = false) := by
  have hl := last_part hv v h
  have e : (recL o t hk k hv v).getLast? = (partL hv v).getLast? := by
    have h1 : partL hv v ≠ [] := by unfold partL; split <;> simp
    unfold recL
    rw [List.getLast?_append, List.getLast?_cons, List.getLast?_append, List.getLast?_cons, List.getLast?_append, List.getLast?_cons]
    rw [hl.1]
    simp
  refine ⟨_, e.trans hl.1, ?_⟩
  cases hv with
  | false => simp
  | true => simp only [if_true]; exact ⟨fun h => absurd h (hl.2 rfl), fun h => by cases h⟩

theorem FnRecordTextLast : laws_FnRecordTextLast.Pure := by
  intro l0 _ _ hx
  refine ⟨1000, ?_⟩
  unfold laws_FnRecordTextLast.f
  by_cases c : (l0.length : Int) > 1048576
  · rw [if_pos c]
  · rw [if_neg c]
    obtain ⟨o, t, hk, k, hv, v, hd, lk, lv⟩ := draw_rec 1000 l0 hx (by omega)
    obtain ⟨r, hi, hs, hr⟩ := both_text 1000 o t hk hv k v lk lv (by omega)
    rw [hd]
    simp only [Option.bind_some]
    rw [hi]
    simp only [Option.bind_some]
    rw [hs]
    simp only [Option.bind_some, if_true]
    rcases hr with rfl | ⟨rfl, hp, hlen⟩
    · rw [if_pos (ByteArray.toList_mk [])]; simp
    · obtain ⟨x, hx1, hx2⟩ := last_rec o t hk hv k v hp
      generalize recL o t hk k hv v = L at hx1 hlen
      have hne : L ≠ [] := fun e => by rw [e] at hx1; cases hx1
      have hl : 0 < L.length := List.length_pos_iff.2 hne
      have hsz : ((⟨L.toArray⟩ : ByteArray).size : Int) = L.length := by show (L.toArray.size : Int) = _; rw [List.size_toArray]
      rw [if_neg (by rw [ByteArray.toList_mk]; exact hne), hsz, w64 (by omega) (by omega), if_pos (by omega), if_pos (by omega), last_bt L x hx1]
      have e : (((x.toNat : Int) == 45) : Bool) = decide (x = 45) := by
        rw [Bool.eq_iff_iff]
        simp only [beq_iff_eq, decide_eq_true_eq]
        constructor
        · intro h
          exact UInt8.toNat_inj.1 (by show x.toNat = 45; omega)
        · rintro rfl; rfl
      rw [e]
      cases hv with
      | false => rw [decide_eq_true (hx2.2 rfl)]; rfl
      | true => rw [decide_eq_false (fun h => by cases hx2.1 h)]; rfl
end Go.Proofs.YtlhbclblehmdbaaDoor.PFnRecordTextLast
