/- The program's text of bytes, of a key or a value, and its words of a record. -/
import Derived.Test.YtlhbclblehmdbaaDoorR5
import Derived.Test.YtlhbclblehmdbaaDoorR6
import Derived.Test.YtlhbclblehmdbaaDoorSh
import Derived.Lib.SmallJoins
set_option linter.unusedVariables false
set_option linter.unusedSimpArgs false
namespace Go.Proofs.YtlhbclblehmdbaaDoor.PFnRecordTextLast
open Go.RowKit Go.Proofs.YtlhbclblehmdbaaDoorW.PrintWords Go.Proofs.YtlhbclblehmdbaaDoorW.PrintLast Go.Proofs.YtlhbclblehmdbaaDoorW.PrintMore

theorem idxRun (q : Nat) (hq : q < 16) (w : World) : (Instr.index 9 (.string ⟨#[48, 49, 50, 51, 52, 53, 54, 55, 56, 57, 97, 98, 99, 100, 101, 102]⟩) (.int .i64 q)).run Tryd.prog w = .ok (.int .u8 (hexd q).toNat) w := by
  have h : ∀ q : Nat, (hq : q < 16) → ((⟨#[48, 49, 50, 51, 52, 53, 54, 55, 56, 57, 97, 98, 99, 100, 101, 102]⟩ : ByteArray)[q]'hq) = hexd q := by decide
  rw [run_index_string w 9 _ .i64 q Tryd.underlying9, dif_pos ⟨by omega, by show (q : Int) < 16; omega⟩]
  exact congrArg (fun z : UInt8 => Result.ok (Value.int .u8 z.toNat) w) (h q hq)
set_option maxHeartbeats 2000000 in
set_option maxRecDepth 100000 in
theorem impl_BytesText.calls (A0 : Option Addr) (c0 : Nat) (l0 : List Int) (K : Nat) (w : World) (hr0 : Kd.C (Kd.int .i64) w A0 l0.length l0) (hc0 : l0.length ≤ c0) (hl : l0.length ≤ 1000000) (hb : ∀ b ∈ l0, 0 ≤ b ∧ b ≤ 255) (hok : impl_allBytes.f K l0 = some true) :
    Calls Tryd.prog 67 #[.slice A0 l0.length c0] w fun e w' => e = .returned (.string ⟨(hexL l0).toArray⟩) ∧ Below w.heap.size w w' := by
  have HR0 := Aside0.mk hr0
  have HC0 := Aside0.mk hc0
  have HBY := Aside0.mk hb
  have HOK := Aside0.mk hok
  clear hr0 hc0 hb hok
  go_enter Tryd.func67, Tryd.ntmps67
  go_wp2_with (go_at_call 65; refine (impl_allBytes.calls K _ _ l0 true _ ?side1 ?side2 HOK.out).mono ?_; (case side1 => repeat (first | exact HR0.out | (with_reducible refine Kd.C_alloc ?_ _) | (with_reducible refine Kd.C_drewN ?_ _) | (with_reducible refine Kd.C_drew ?_))); (case side2 => exact HC0.out); rintro e w' ⟨rfl, ⟨nd, rfl⟩⟩)
  obtain ⟨B, hBe⟩ : ∃ B, B = w.heap.size := ⟨_, rfl⟩
  have hI : Lib.IsBuilder 111 5 B B (Lib.byteCells []) ((w.drewN nd).alloc (Obj.cells #[Value.pointer none, Value.slice none 0 0] 111)) := by
    have h := Lib.fresh_isBuilder 111 5 (w.drewN nd)
    rw [show (w.drewN nd).heap.size = B from hBe.symm] at h
    exact h
  have hW : Below B w ((w.drewN nd).alloc (Obj.cells #[Value.pointer none, Value.slice none 0 0] 111)) := by
    rw [hBe]; apply below_alloc; apply pw_below_drewN; exact Below.refl _ _
  rw [← hBe]
  have HI := Aside0.mk hI
  have HW := Aside0.mk hW
  have HBE := Aside0.mk hBe
  clear hI hW hBe
  generalize (w.drewN nd).alloc (Obj.cells #[Value.pointer none, Value.slice none 0 0] 111) = wb at HI HW ⊢
  go_loopw [5, 11] (fun v5 v11 wr => ∃ k : Nat, k ≤ l0.length ∧ v11 = .int .i64 k ∧ Aside0 (Lib.IsBuilder 111 5 B B (Lib.byteCells (hexL (l0.take k))) wr) ∧ Aside0 (Below B w wr)) (fun _ v11 _ => l0.length - (intOf v11).toNat)
  case atStart => exact ⟨0, Nat.zero_le _, rfl, HI, HW⟩
  case round =>
    clear HI HW
    obtain ⟨k, hk, rfl, HI, HW⟩ := hrel
    by_cases hlt : k < l0.length
    · obtain ⟨ad, e1, hx⟩ := Kd.at_int HR0.out (k : Int) (by omega) (by omega)
      subst e1
      obtain ⟨b, hbe⟩ : ∃ b, b = rd l0 (k : Int) := ⟨_, rfl⟩
      rw [← hbe] at hx
      simp only [Int.toNat_natCast, Nat.mul_one, Nat.add_zero] at hx
      have hbr : 0 ≤ b ∧ b ≤ 255 := by
        rw [hbe]; unfold rd
        rw [List.getD_eq_getElem?_getD, Int.toNat_natCast, List.getElem?_eq_getElem hlt]
        exact HBY.out _ (List.getElem_mem _)
      obtain ⟨b0, b1⟩ := hbr
      have HBE' := Aside0.mk hbe
      clear hbe
      have hxr : wr.cell? (ad.add k) = some (.int .i64 b) := (HW.out.cell (by rw [HBE.out]; exact World.block_lt_of_cell? w _ hx)).trans hx
      clear hx
      obtain ⟨q, hq, hq16⟩ : ∃ q : Nat, b / 16 = q ∧ q < 16 := ⟨(b / 16).toNat, by omega, by omega⟩
      obtain ⟨r, hr, hr16⟩ : ∃ r : Nat, b % 16 = r ∧ r < 16 := ⟨(b % 16).toNat, by omega, by omega⟩
      have HQ := Aside0.mk hq
      have HRR := Aside0.mk hr
      have c1 := idxRun q hq16
      have c2 := idxRun r hr16
      have e2 : bits .and .i64 b 15 = (r : Int) := by
        have h := bits_mask .i64 62 (by decide) (fun n h0 h1 => by rw [IntKind.wrap_i64]; omega) 4 (by decide) b b0 (by omega)
        rw [show ((2 : Int) ^ 4 - 1) = 15 from rfl, show ((2 : Int) ^ 4) = 16 from rfl] at h
        rw [h]; exact hr
      have hn : (Lib.byteCells (hexL (l0.take k))).length ≤ 2000000 := by rw [Lib.byteCells_length, hexL_length, List.length_take]; omega
      have HN := Aside0.mk hn
      clear hn
      go_wp2_with fail
      refine (Sh.writeByte B B _ _ _ HI.out (by have := HN.out; omega) (by rw [HBE.out]; exact HW.out.size)).mono ?_
      rintro e w1 ⟨rfl, hi, hb⟩
      have HI1 := Aside0.mk hi
      have HW1 := Aside0.mk (HW.out.trans hb)
      clear hi hb hxr
      go_wp2_with fail
      refine (Sh.writeByte B B _ _ _ (.inr HI1.out) (by have := HN.out; simp; omega) (by rw [HBE.out]; exact HW1.out.size)).mono ?_
      rintro e w2 ⟨rfl, hi, hb⟩
      have HI2 := Aside0.mk hi
      have HW2 := Aside0.mk (HW1.out.trans hb)
      clear hi hb
      have HE := Aside0.mk (show Lib.byteCells (hexL (l0.take (k + 1))) = (Lib.byteCells (hexL (l0.take k)) ++ [.int .u8 (hexd q).toNat]) ++ [.int .u8 (hexd r).toNat] from by
        have ht : l0.take (k + 1) = l0.take k ++ [b] := by
          rw [List.take_succ_eq_append_getElem hlt, HBE'.out]
          unfold rd
          rw [List.getD_eq_getElem?_getD, Int.toNat_natCast, List.getElem?_eq_getElem hlt]
          rfl
        rw [ht, hexL_snoc, HQ.out, HRR.out]
        simp [Lib.byteCells])
      clear hq hr c1 c2 e2
      go_wp2
      go_roundw
      case rel => exact ⟨k + 1, by omega, by go_num, ⟨.inr (by rw [HE.out]; exact HI2.out)⟩, HW2⟩
      case measure => simp [intOf]; omega
    · obtain rfl : k = l0.length := by omega
      have HF := Aside0.mk (show l0.take l0.length = l0 from List.take_of_length_le (Nat.le_refl _))
      have hI := HI.out
      rw [HF.out] at hI
      have HI' := Aside0.mk hI
      clear hI HI
      go_wp2_with fail
      refine (Sh.string B B (hexL l0) _ HI'.out (by rw [HBE.out]; exact HW.out.size)).mono ?_
      rintro e w1 ⟨rfl, hb⟩
      have HW1 := Aside0.mk (HW.out.trans hb)
      clear hb
      go_wp2
      go_ret
      exact ⟨rfl, by rw [← HBE.out]; exact HW1.out⟩
end Go.Proofs.YtlhbclblehmdbaaDoor.PFnRecordTextLast
