/- The reference's line of a valid record. -/
import Derived.Test.YtlhbclblehmdbaaDoorR3
import Derived.Lib.ItoaNum
import Derived.Lib.ItoaMem
import Derived.BigQuiet
set_option linter.unusedVariables false
set_option linter.unusedSimpArgs false
namespace Go
/-- A world in which all that lay in w0 lies as it was. -/
structure BelowBy (w0 : World) where
  wd : World
  h : RowKit.Below w0.heap.size w0 wd
instance (w0 : World) : Inhabited (BelowBy w0) := ⟨⟨w0, RowKit.Below.refl _ _⟩⟩
theorem wp_region_quiet_below {P : Program} {id : Nat} {Q : Exit → Act → World → Prop} {a : Act} {w : World} {l : List Oper} (hm : P.follows .mixedOrders = true) (hB : Region.lexB .any l.toArray = true)
    (h : wpQuiet P l.toArray (fun w' => ∃ p : BelowBy w, w' = p.wd) (fun a' => ∀ w', (∃ p : BelowBy w, w' = p.wd) → Q .normal a' w') l a) : (Code.region id l.toArray true).wp P Q a w :=
  wp_region_quiet (C := fun w' => ∃ p : BelowBy w, w' = p.wd) hm hB ⟨⟨w.drew, (RowKit.Below.refl _ _).drew⟩, rfl⟩ (by simpa using h)
theorem Calls.below_of {P : Program} {f : FuncId} {args : Array Value} {w : World} {p : BelowBy w} {v : Value}
    (h : Calls P f args p.wd fun e w' => e = .returned v ∧ RowKit.Below p.wd.heap.size p.wd w') : Calls P f args p.wd fun e w'' => e = .returned v ∧ ∃ q : BelowBy w, w'' = q.wd :=
  h.mono fun _ w'' ⟨he, hb⟩ => ⟨he, ⟨w'', p.h.trans (hb.mono p.h.size)⟩, rfl⟩
theorem BelowBy.cell {w : World} (p : BelowBy w) {a : Addr} {v : Value} (h : w.cell? a = some v) : p.wd.cell? a = some v := (p.h.cell (World.block_lt_of_cell? w a h)).trans h
theorem BelowBy.spec {w w' : World} (h : ∃ p : BelowBy w, w' = p.wd) : RowKit.Below w.heap.size w w' := by
  obtain ⟨p, rfl⟩ := h
  exact p.h
end Go
namespace Go.Proofs.YtlhbclblehmdbaaDoor.PFnRecordTextLast
open Go.RowKit Go.Proofs.YtlhbclblehmdbaaDoorW.PrintWords Go.Proofs.YtlhbclblehmdbaaDoorW.PrintLast Go.Proofs.YtlhbclblehmdbaaDoorW.PrintMore

def partL (has : Bool) (l : List Int) : List UInt8 := if has = true then 120 :: hexL l else [45]
def recL (o t : Int) (hk : Bool) (k : List Int) (hv : Bool) (v : List Int) : List UInt8 := Lib.itoa o ++ (32 :: (Lib.itoa t ++ (32 :: (partL hk k ++ (32 :: partL hv v)))))
theorem itoa_length (n : Int) (h0 : 0 ≤ n) (h1 : n ≤ 99999) : 1 ≤ (Lib.itoa n).length ∧ (Lib.itoa n).length ≤ 5 := by
  obtain ⟨u, rfl⟩ := Int.eq_ofNat_of_zero_le h0
  rw [Lib.itoa_nonneg, Lib.decDigits_length]
  have h : ∀ (m u : Nat), u < 10 ^ (m + 1) → 1 ≤ Lib.nDigits u ∧ Lib.nDigits u ≤ m + 1 := by
    intro m
    induction m with
    | zero => intro u hu; rw [Lib.nDigits_small (by omega)]; omega
    | succ m ih =>
      intro u hu
      rw [Lib.nDigits]
      split
      · omega
      · have := ih (u / 10) (by rw [Nat.div_lt_iff_lt_mul (by decide)]; rw [Nat.pow_succ] at hu; omega)
        omega
  have := h 4 u (by omega)
  omega
theorem dec_ok : ∀ (m K : Nat) (u : Nat), u < 10 ^ (m + 1) → m ≤ 8 → m < K → spec_l6Dec.f K (u : Int) = some ⟨(Lib.itoa u).toArray⟩
  | m, 0, u, _, _, h => absurd h (by omega)
  | m, K + 1, u, hu, hm, hK => by
    have hu9 : u < 1000000000 := Nat.lt_of_lt_of_le hu (Nat.pow_le_pow_right (by decide) (by omega : m + 1 ≤ 9))
    rw [spec_l6Dec.f, if_neg (by omega), if_neg (by omega), Lib.itoa_nonneg]
    by_cases c : u < 10
    · rw [if_pos (by omega), Lib.decDigits_one c]
      rw [show wrap64 (48 + (u : Int)) = 48 + (u : Int) from by unfold wrap64; omega]
      have : (48 + (u : Int)) % 256 = ((48 + u : Nat) : Int) := by omega
      rw [this]
      rfl
    · cases m with
      | zero => omega
      | succ m =>
        have e1 : Int.tdiv (u : Int) 10 = ((u / 10 : Nat) : Int) := by rw [Int.tdiv_eq_ediv_of_nonneg (by omega)]; omega
        have e2 : Int.tmod (u : Int) 10 = ((u % 10 : Nat) : Int) := by rw [Int.tmod_eq_emod_of_nonneg (by omega)]; omega
        have e3 : wrap64 ((u / 10 : Nat) : Int) = ((u / 10 : Nat) : Int) := by unfold wrap64; omega
        have e4 : (wrap64 (48 + ((u % 10 : Nat) : Int))) % 256 = ((48 + u % 10 : Nat) : Int) := by unfold wrap64; omega
        have ih := dec_ok m K (u / 10) (by rw [Nat.div_lt_iff_lt_mul (by decide)]; rw [Nat.pow_succ] at hu; omega) (by omega) (by omega)
        rw [Lib.itoa_nonneg] at ih
        rw [if_neg (by omega), e1, e3, ih, e2, e4]
        simp only [Option.bind_some]
        have hn : (strOfNums [((48 + u % 10 : Nat) : Int)]) = ⟨#[UInt8.ofNat (48 + u % 10)]⟩ := rfl
        rw [hn]
        have hl : (⟨(Lib.decDigits (u / 10)).toArray⟩ : ByteArray).size ≤ 1000000 := by
          show (Lib.decDigits (u / 10)).toArray.size ≤ _
          rw [List.size_toArray, Lib.decDigits_length]
          have h : ∀ (m u : Nat), u < 10 ^ (m + 1) → Lib.nDigits u ≤ m + 1 := by
            intro m
            induction m with
            | zero => intro u hu; rw [Lib.nDigits_small (by omega)]; omega
            | succ m ih =>
              intro u hu
              rw [Lib.nDigits]
              split
              · omega
              · have := ih (u / 10) (by rw [Nat.div_lt_iff_lt_mul (by decide)]; rw [Nat.pow_succ] at hu; omega)
                omega
          have := h 9 (u / 10) (by omega)
          omega
        rw [if_pos (by show _ + 1 ≤ _; omega)]
        rw [show Lib.decDigits u = Lib.decDigits (u / 10) ++ [UInt8.ofNat (48 + u % 10)] from by rw [Lib.decDigits, dif_neg c]]
        exact congrArg some (by apply ByteArray.ext; simp [ByteArray.data_append])
theorem spec_dec (n : Int) (K : Nat) (h0 : 0 ≤ n) (h1 : n ≤ 99999) (hK : 10 ≤ K) : spec_l6Dec.f K n = some ⟨(Lib.itoa n).toArray⟩ := by
  obtain ⟨u, rfl⟩ := Int.eq_ofNat_of_zero_le h0
  exact dec_ok 4 K u (by omega) (by omega) (by omega)

/-- A part that can be told: not too many bytes. -/
def pOk (l : List Int) : Prop := l.length ≤ 12 ∧ ∀ b ∈ l, 0 ≤ b ∧ b ≤ 255
theorem partL_length (has : Bool) (l : List Int) (h : pOk l) : 1 ≤ (partL has l).length ∧ (partL has l).length ≤ 25 := by
  unfold partL
  have := h.1
  split
  · rw [List.length_cons, hexL_length]; omega
  · simp

set_option maxHeartbeats 2000000 in
set_option maxRecDepth 100000 in
theorem spec_l41Part.calls (a0 : Bool) (A1 : Option Addr) (c1 : Nat) (l1 : List Int) (K : Nat) (w : World) (hr1 : Kd.C (Kd.int .i64) w A1 l1.length l1) (hc1 : l1.length ≤ c1) (hp : pOk l1) (hok : spec_l1Ok.f K l1 = some true) :
    Calls Tryd.prog 58 #[.bool a0, .slice A1 l1.length c1] w fun e w' => e = .returned (.string ⟨(partL a0 l1).toArray⟩) ∧ Below w.heap.size w w' := by
  have HR := Aside0.mk hr1
  have HC := Aside0.mk hc1
  have HP := Aside0.mk hp
  have HOK := Aside0.mk hok
  have hs : (hexL l1).length ≤ 24 := by rw [hexL_length]; have := hp.1; omega
  clear hr1 hc1 hp hok
  cases a0 with
  | false =>
    go_enter Tryd.func58, Tryd.ntmps58
    go_wp2
    go_ret
    exact ⟨rfl, Below.refl _ _⟩
  | true =>
    generalize hx : (⟨(hexL l1).toArray⟩ : ByteArray) = x
    have hx1 : 1 + x.size ≤ 9223372036854775807 := by rw [← hx]; show 1 + (hexL l1).toArray.size ≤ _; rw [List.size_toArray]; omega
    have HX := Aside0.mk hx
    clear hx
    go_enter Tryd.func58, Tryd.ntmps58
    go_wp2_with (go_at_call 72; refine (spec_BytesText.calls _ _ l1 K _ HR.out HC.out (by have := HP.out.1; omega) HP.out.2 HOK.out).mono ?_; rw [HX.out]; rintro e w' ⟨rfl, ⟨nd, rfl⟩⟩)
    go_ret
    refine ⟨?_, by apply pw_below_drewN; exact Below.refl _ _⟩
    unfold partL
    rw [if_pos rfl]
    have : (⟨#[120]⟩ : ByteArray) ++ x = ⟨(120 :: hexL l1).toArray⟩ := by rw [← HX.out]; apply ByteArray.ext; simp [ByteArray.data_append]
    rw [← this]
    rfl
end Go.Proofs.YtlhbclblehmdbaaDoor.PFnRecordTextLast
