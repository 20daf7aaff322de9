/- The reference's text of bytes: for every list of bytes its digits of base 16. -/
import Derived.Test.YtlhbclblehmdbaaDoorR2
import Derived.Laws.DeepStrings4
namespace Go.Proofs.YtlhbclblehmdbaaDoor.PFnRecordTextLast
open Go.RowKit Go.Proofs.YtlhbclblehmdbaaDoorW.PrintWords Go.Proofs.YtlhbclblehmdbaaDoorW.PrintLast Go.Proofs.YtlhbclblehmdbaaDoorW.PrintMore
set_option linter.unusedVariables false
set_option linter.unusedSimpArgs false

/-- A digit of base 16. -/
def hexd (n : Nat) : UInt8 := if n < 10 then UInt8.ofNat (48 + n) else UInt8.ofNat (87 + n)
def hexL (l : List Int) : List UInt8 := l.flatMap fun b => [hexd (b / 16).toNat, hexd (b % 16).toNat]
theorem hexL_snoc (l : List Int) (b : Int) : hexL (l ++ [b]) = hexL l ++ [hexd (b / 16).toNat, hexd (b % 16).toNat] := by
  unfold hexL; simp
theorem hexL_length (l : List Int) : (hexL l).length = 2 * l.length := by
  induction l with
  | nil => rfl
  | cons a r ih =>
    have : hexL (a :: r) = [hexd (a / 16).toNat, hexd (a % 16).toNat] ++ hexL r := by unfold hexL; simp
    rw [this, List.length_append, ih]
    simp; omega
def digs : ByteArray := ⟨#[48, 49, 50, 51, 52, 53, 54, 55, 56, 57, 97, 98, 99, 100, 101, 102]⟩
theorem cutd : ∀ q : Nat, q < 16 → digs.extract q (q + 1) = ⟨#[hexd q]⟩ := by decide
theorem cutRun (q : Nat) (hq : q < 16) (w : World) : (Instr.slice 9 (.string ⟨#[48, 49, 50, 51, 52, 53, 54, 55, 56, 57, 97, 98, 99, 100, 101, 102]⟩) (some (.int .i64 q)) (some (.int .i64 (q + 1))) none).run Tryd.prog w = .ok (.string ⟨#[hexd q]⟩) w := by
  rw [run_slice_string_if w 9 _ .i64 .i64 q (q + 1) Tryd.underlying9, if_pos ⟨by omega, by show (q : Int) + 1 ≤ 16; omega⟩, if_pos ⟨by omega, by omega⟩]
  exact congrArg (fun z => Result.ok (Value.string z) w) (cutd q hq)
theorem digs_eq : (⟨#[48, 49, 50, 51, 52, 53, 54, 55, 56, 57, 97, 98, 99, 100, 101, 102]⟩ : ByteArray) = digs := rfl

set_option maxHeartbeats 2000000 in
set_option maxRecDepth 100000 in
theorem spec_BytesText.calls (A0 : Option Addr) (c0 : Nat) (l0 : List Int) (K : Nat) (w : World) (hr0 : Kd.C (Kd.int .i64) w A0 l0.length l0) (hc0 : l0.length ≤ c0) (hl : l0.length ≤ 1000000) (hb : ∀ b ∈ l0, 0 ≤ b ∧ b ≤ 255) (hok : spec_l1Ok.f K l0 = some true) :
    Calls Tryd.prog 72 #[.slice A0 l0.length c0] w fun e w' => e = .returned (.string ⟨(hexL l0).toArray⟩) ∧ Drawn0 w w' := by
  have HR0 := Aside0.mk hr0
  have HC0 := Aside0.mk hc0
  have HB := Aside0.mk hb
  have HOK := Aside0.mk hok
  clear hr0 hc0 hb hok
  go_enter Tryd.func72, Tryd.ntmps72
  go_wp2
  go_loopw [4, 5] (fun v4 v5 w' => ∃ k : Nat, k ≤ l0.length ∧ v4 = .string ⟨(hexL (l0.take k)).toArray⟩ ∧ v5 = .int .i64 k ∧ Drawn0 w w') (fun _ v5 _ => l0.length - (intOf v5).toNat)
  case atStart => exact ⟨0, Nat.zero_le _, rfl, rfl, Drawn0.refl _⟩
  case round =>
    obtain ⟨k, hk, rfl, rfl, ⟨m1, rfl⟩⟩ := hrel
    by_cases hlt : k < l0.length
    · obtain ⟨ad, e1, hx⟩ := Kd.at_int HR0.out (k : Int) (by omega) (by omega)
      subst e1
      obtain ⟨b, hbe⟩ : ∃ b, b = rd l0 (k : Int) := ⟨_, rfl⟩
      rw [← hbe] at hx
      simp only [Int.toNat_natCast, Nat.mul_one, Nat.add_zero] at hx
      have hbr : 0 ≤ b ∧ b ≤ 255 := by
        rw [hbe]; unfold rd
        rw [List.getD_eq_getElem?_getD, Int.toNat_natCast, List.getElem?_eq_getElem hlt]
        exact HB.out _ (List.getElem_mem _)
      obtain ⟨b0, b1⟩ := hbr
      have HBE := Aside0.mk hbe
      clear hbe
      have hsz : (hexL (l0.take k)).length ≤ 2000000 := by rw [hexL_length, List.length_take]; omega
      generalize hs : (⟨(hexL (l0.take k)).toArray⟩ : ByteArray) = s at *
      have hs0 : s.size ≤ 2000000 := by rw [← hs]; simpa [ByteArray.size] using hsz
      have HS := Aside0.mk hs
      clear hs hsz
      go_wp2_with (go_at_call 71; refine (spec_l1Ok.calls K _ _ l0 true _ ?side1 ?side2 HOK.out).mono ?_; (case side1 => repeat (first | exact HR0.out | (with_reducible refine Kd.C_alloc ?_ _) | (with_reducible refine Kd.C_drewN ?_ _) | (with_reducible refine Kd.C_drew ?_))); (case side2 => exact HC0.out); rintro e w' ⟨rfl, ⟨nd, rfl⟩⟩)
      obtain ⟨q, hq, hq16⟩ : ∃ q : Nat, b / 16 = q ∧ q < 16 := ⟨(b / 16).toNat, by omega, by omega⟩
      obtain ⟨r, hr, hr16⟩ : ∃ r : Nat, b % 16 = r ∧ r < 16 := ⟨(b % 16).toNat, by omega, by omega⟩
      have e1 : Int.tdiv b 16 = (q : Int) := by rw [Int.tdiv_eq_ediv_of_nonneg b0]; exact hq
      have e2 : Int.tmod b 16 = (r : Int) := by rw [Int.tmod_eq_emod_of_nonneg b0]; exact hr
      have HQ := Aside0.mk hq
      have HR := Aside0.mk hr
      have e3 : IntKind.i64.wrap ((q : Int) + 1) = (q : Int) + 1 := by rw [IntKind.wrap_i64]; omega
      have e4 : IntKind.i64.wrap ((r : Int) + 1) = (r : Int) + 1 := by rw [IntKind.wrap_i64]; omega
      have e5 : IntKind.i64.wrap (q : Int) = (q : Int) := by rw [IntKind.wrap_i64]; omega
      have e6 : IntKind.i64.wrap (r : Int) = (r : Int) := by rw [IntKind.wrap_i64]; omega
      clear hq hr
      have c1 := cutRun q hq16
      have c2 := cutRun r hr16
      have z1 : (⟨#[hexd q]⟩ : ByteArray).size = 1 := rfl
      have z2 : (⟨#[hexd r]⟩ : ByteArray).size = 1 := rfl
      have s1 : s.size + 1 ≤ 9223372036854775807 := by omega
      go_quiet (fail)
      have HE := Aside0.mk (show s ++ (⟨#[hexd q]⟩ : ByteArray) ++ ⟨#[hexd r]⟩ = ⟨(hexL (l0.take (k + 1))).toArray⟩ by
        have ht : l0.take (k + 1) = l0.take k ++ [b] := by
          rw [List.take_succ_eq_append_getElem hlt, HBE.out]
          unfold rd
          rw [List.getD_eq_getElem?_getD, Int.toNat_natCast, List.getElem?_eq_getElem hlt]
          rfl
        rw [ht, hexL_snoc, HQ.out, HR.out, ← HS.out]
        apply ByteArray.ext
        simp [ByteArray.data_append])
      clear e1 e2 e3 e4 e5 e6 c1 c2 z1 z2 s1
      go_wp2
      go_roundw
      case rel => exact ⟨k + 1, by omega, by rw [HE.out], by go_num, by repeat (first | exact Drawn0.refl _ | apply Drawn0.step)⟩
      case measure => simp [intOf]; omega
    · obtain rfl : k = l0.length := by omega
      have HF := Aside0.mk (show l0.take l0.length = l0 from List.take_of_length_le (Nat.le_refl _))
      generalize hs : (⟨(hexL (l0.take l0.length)).toArray⟩ : ByteArray) = s at *
      have HS := Aside0.mk hs
      clear hs
      go_wp2
      go_ret
      exact ⟨by rw [← HS.out, HF.out]; rfl, by repeat (first | exact Drawn0.refl _ | apply Drawn0.step)⟩
end Go.Proofs.YtlhbclblehmdbaaDoor.PFnRecordTextLast
