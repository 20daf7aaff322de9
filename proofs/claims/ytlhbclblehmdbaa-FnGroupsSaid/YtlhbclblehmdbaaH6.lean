/- The marking of a clipped row: its room is its length, its block may hold more. -/
import Derived.Test.YtlhbclblehmdbaaH0
import Derived.Test.YtlhbclblehmdbaaH5
set_option linter.unusedVariables false
set_option linter.unusedSimpArgs false
namespace Go.Proofs.Ytlhbclblehmdbaa.PFnExactGroupsPut
open Go.RowKit Go.Proofs.YtlhbclblehmdbaaW.PrintWords Go.Proofs.YtlhbclblehmdbaaW.PrintLast Go.Proofs.YtlhbclblehmdbaaW.PrintMore

set_option maxHeartbeats 4000000 in
set_option maxRecDepth 100000 in
theorem laws_markGroupS.clip (k g n : Nat) (cur0 : List Value) (l0 r2 : List S34) (a1 r1 : Int) (w : World) (hg : w.heap[g]? = some (.cells cur0.toArray 34 (0, 0))) (hcl : 2 * n ≤ cur0.length) (ht : cur0.take (n * 2) = flat l0) (hn : l0.length = n) (hn63 : (n : Int) ≤ 1048576)
    (h : laws_markGroupS.f k l0 a1 = some (r1, r2)) :
    Calls Try.prog 31 #[.slice (some ⟨g, 0, none⟩) n n, .int .i64 a1] w fun e w' => e = .returned (.int .i64 r1) ∧ (∃ cur : List Value, w'.heap[g]? = some (.cells cur.toArray 34 (0, 0)) ∧ cur.length = cur0.length ∧ cur.take (n * 2) = flat r2 ∧ r2.length = n) ∧ w.grownBy w' (some g) := by
  have hu34 := Try.underlying34
  have HG := Aside0.mk hg
  have HT := Aside0.mk ht
  have HN := Aside0.mk hn
  have HCL := Aside0.mk hcl
  have H' := Aside0.mk (show laws_markGroupS.l0 k l0 a1 0 = some (r1, r2) from h)
  clear hg ht hn hcl h
  go_enter Try.func31, Try.ntmps31
  go_wp2
  go_loopg [1, 5] k (fun kq v1 v5 w' => ∃ (l : List S34) (a x : Int) (cur : List Value), v1 = .int .i64 a ∧ v5 = .int .i64 x ∧ Aside0 (laws_markGroupS.l0 kq l a x = some (r1, r2)) ∧ Aside0 (kq ≤ k) ∧ Aside0 (w'.heap[g]? = some (.cells cur.toArray 34 (0, 0))) ∧ Aside0 (cur.length = cur0.length) ∧ Aside0 (cur.take (n * 2) = flat l) ∧ Aside0 (l.length = n) ∧ Aside0 (w.grownBy w' (some g)))
  case atStart => exact ⟨l0, a1, 0, cur0, rfl, rfl, H', ⟨Nat.le_refl _⟩, HG, ⟨rfl⟩, HT, HN, ⟨World.grownBy.refl _ _⟩⟩
  case round =>
    clear H' HG HT HN
    obtain ⟨l, a, x, cur, rfl, rfl, HA, HK1, HG, HL, HT, HN, HGR⟩ := hrel
    cases gk with
    | zero => exact absurd HA.out (by simp [laws_markGroupS.l0])
    | succ k1 =>
      have H := HA.out
      clear HA
      simp only [laws_markGroupS.l0, HN.out] at H
      by_cases c3 : x < (n : Int)
      · rw [if_pos c3] at H
        replace H := Option.bind_eq_some_iff.mp H
        obtain ⟨t, A40, H⟩ := H
        have A4 := Aside0.mk A40
        clear A40
        by_cases c5 : 0 ≤ x
        · rw [if_pos c5] at H
          simp only [Option.bind_some] at H
          have hxl : x.toNat < l.length := by have := HN.out; omega
          have ey : rd_T34 (l.set x.toNat ⟨t, (rd_T34 l x).f1⟩) x = ⟨t, (rd_T34 l x).f1⟩ := by
            unfold rd_T34
            rw [List.getD_eq_getElem?_getD, List.getElem?_set_self hxl]
            rfl
          rw [ey, List.set_set] at H
          have HF := Aside0.mk (flat_set l x.toNat ⟨t, wrap64 (a + 1)⟩)
          have HXL := Aside0.mk hxl
          have H' := Aside0.mk H
          clear H ey hxl
          have c3b : decide (x < (n : Int)) = true := decide_eq_true c3
          go_wp2_with (go_at_call 53; refine (laws_markText.calls k1 a t _ A4.out).mono ?_; rintro e w9 ⟨rfl, hb⟩; have HG9 := Aside0.mk (blk_below HG.out hb); have HB9 := Aside0.mk hb; clear hb; obtain ⟨o0, hx0⟩ : ∃ v, w9.cell? ⟨g, x.toNat * 2, none⟩ = some v := ⟨_, (blk_cell HG9.out (x.toNat * 2)).trans (by rw [List.getElem?_toArray, List.getElem?_eq_getElem (by have := HL.out; have := HCL.out; have := HXL.out; have := HN.out; omega)])⟩; obtain ⟨o1, hx1⟩ : ∃ v, w9.cell? ⟨g, x.toNat * 2 + 1, none⟩ = some v := ⟨_, (blk_cell HG9.out (x.toNat * 2 + 1)).trans (by rw [List.getElem?_toArray, List.getElem?_eq_getElem (by have := HL.out; have := HCL.out; have := HXL.out; have := HN.out; omega)])⟩; have hf0 := blk_frozen HG9.out (x.toNat * 2); have hf1 := blk_frozen HG9.out (x.toNat * 2 + 1))
          have HG10 := Aside0.mk (show ((w9.setCell ⟨g, x.toNat * 2, none⟩ (.string t)).setCell ⟨g, x.toNat * 2 + 1, none⟩ (.int .i64 (wrap64 (a + 1)))).heap[g]? = some (.cells ((cur.set (x.toNat * 2) (.string t)).set (x.toNat * 2 + 1) (.int .i64 (wrap64 (a + 1)))).toArray 34 (0, 0)) from blk_put (blk_put HG9.out (x.toNat * 2) _ rfl) (x.toNat * 2 + 1) _ (by simp))
          have HGR10 := Aside0.mk (show w.grownBy ((w9.setCell ⟨g, x.toNat * 2, none⟩ (.string t)).setCell ⟨g, x.toNat * 2 + 1, none⟩ (.int .i64 (wrap64 (a + 1)))) (some g) from by
            have hg9 : w.grownBy w9 (some g) := ⟨HB9.out.os.trans HGR.out.os, HB9.out.tape.trans HGR.out.tape, HB9.out.output.trans HGR.out.output, Nat.le_trans HGR.out.size HB9.out.size, fun k hk hne => (HB9.out.block k (Nat.lt_of_lt_of_le hk HGR.out.size)).trans (HGR.out.block k hk hne)⟩
            exact ⟨hg9.os, hg9.tape, hg9.output, by simpa using hg9.size, fun k hk hne => by
              have hkg : k ≠ g := fun e => hne (by rw [e])
              rw [Below.heap_setCell _ _ _ k hkg, Below.heap_setCell _ _ _ k hkg]
              exact hg9.block k hk hne⟩)
          go_roundg k1
          case measure => have := HK1.out; omega
          case rel =>
            refine ⟨l.set x.toNat ⟨t, wrap64 (a + 1)⟩, wrap64 (wrap64 (a + 1) + 1), wrap64 (x + 1), _, rfl, by congr 1; unfold wrap64; omega, H', ⟨by have := HK1.out; omega⟩, HG10, ⟨by simpa using HL.out⟩, ⟨?_⟩, ⟨by simpa using HN.out⟩, HGR10⟩
            rw [HF.out, ← HT.out]
            simp only [List.take_set]
        · rw [if_neg c5] at H
          exact absurd H (by simp)
      · rw [if_neg c3] at H
        have c3b : decide (x < (n : Int)) = false := decide_eq_false c3
        simp only [Option.some.injEq, Prod.mk.injEq] at H
        obtain ⟨rfl, rfl⟩ := H
        go_wp2
        go_ret
        exact ⟨rfl, ⟨cur, HG.out, HL.out, HT.out, HN.out⟩, HGR.out⟩
end Go.Proofs.Ytlhbclblehmdbaa.PFnExactGroupsPut
