/- FnExactBatchCut: the law for every batch that can be read, the row, and the card. -/
import Derived.Test.YtlhbclblehmdbaaDoorRows
import Derived.Test.YtlhbclblehmdbaaDoorCards
import Derived.Test.YtlhbclblehmdbaaDoorTie
import Derived.Test.YtlhbclblehmdbaaDoorC13
import Derived.Test.YtlhbclblehmdbaaDoorC20
import Derived.WalkKit
import Derived.ProofKit
import Derived.OpenShut
import Derived.ShutString
import Derived.ChangeOld
import Derived.Below
import Derived.SizedLaws
import Derived.LaidMore
import Derived.LaidHandle
import Derived.Stop.LaidErr
import Derived.Stop.LaidTwo
import Derived.MakeChecks
import Derived.SevenTiedAt
import Derived.Lib.SmallJoins
set_option linter.unusedVariables false
namespace Go.Proofs.YtlhbclblehmdbaaDoor.PFnExactBatchCut
open Go.RowKit Go.Proofs.YtlhbclblehmdbaaDoorW.PrintWords Go.Proofs.YtlhbclblehmdbaaDoorW.PrintLast Go.Proofs.YtlhbclblehmdbaaDoorW.PrintMore
open Go.ChangeShapes Go.WideShapes Go.Deep

set_option maxRecDepth 100000 in
theorem open_batch {H : Type} {enc : TypeId × Value → H} {w : World} {r : Reach} {b0 : Nat} {v : Value} {d : DataW H} {p : List MemPlace} (hv : Value.okWide Tryd.prog w r b0 24 v) (h : DataW.Trod enc Tryd.prog w 0 (fun _ => true) true 24 v d p) :
    ∃ (bp bm : Bool) (pr ep sq : Int) (A : Option Addr) (c : Nat) (l : List S67), v = .agg #[.bool bp, .bool bm, .int .i64 pr, .int .i64 ep, .int .i64 sq, .slice A l.length c] ∧ l.length ≤ c ∧ Kd.C k67 w A l.length l ∧ ∀ x ∈ l, x.f3.length ≤ 9223372036854775807 ∧ x.f5.length ≤ 9223372036854775807 := by
  obtain ⟨cs, rfl, hsz⟩ := okWide_struct Tryd.underlying24 hv
  have h6 : cs.size = 6 := hsz.trans (by kernel_rfl)
  obtain ⟨fuel, hf⟩ := h
  obtain ⟨ys, n, -, hy, hlen, hyl, hat⟩ := DataW.trod_struct Tryd.underlying24 hf
  have key : ∀ (j : Nat) (hj : j < 6) (t : TypeId), ((Tryd.prog.underlying 24).bind fun d => match d with | .struct fs => (fs[j]?).map (fun f => (f.type, f.offset, Tryd.prog.cellsOf f.type)) | _ => none) = some (t, j, 1) → ∃ y, DataW.trod enc Tryd.prog w 0 (fun _ => true) true n t [cs[j]'(by omega)] = some y := by
    intro j hj t ht
    rw [Tryd.underlying24] at ht
    obtain ⟨f, hfj, he⟩ := Option.map_eq_some_iff.1 ht
    simp only [Prod.mk.injEq] at he
    obtain ⟨rfl, ho, hk⟩ := he
    have h1 := hat j f hfj
    rw [ho, hk] at h1
    have hone' : ((Value.agg cs).cells.toList.drop j).take 1 = [cs[j]'(by omega)] := by
      have hl : cs.toList.length = 6 := by simpa using h6
      have : (Value.agg cs).cells.toList = cs.toList := rfl
      rw [this, List.drop_eq_getElem_cons (by omega)]
      simp
    rw [hone'] at h1
    have hjl : j < ys.length := by rw [hyl]; exact (Array.getElem?_eq_some_iff.1 hfj).1
    exact ⟨_, h1.trans (List.getElem?_eq_getElem hjl)⟩
  obtain ⟨y0, t0⟩ := key 0 (by omega) 4 (by kernel_rfl)
  obtain ⟨y1, t1⟩ := key 1 (by omega) 4 (by kernel_rfl)
  obtain ⟨y2, t2⟩ := key 2 (by omega) 3 (by kernel_rfl)
  obtain ⟨y3, t3⟩ := key 3 (by omega) 3 (by kernel_rfl)
  obtain ⟨y4, t4⟩ := key 4 (by omega) 3 (by kernel_rfl)
  obtain ⟨y5, t5⟩ := key 5 (by omega) 22 (by kernel_rfl)
  obtain ⟨n0, e0⟩ := open_bo t0
  obtain ⟨n1, e1⟩ := open_bo t1
  obtain ⟨n2, e2⟩ := open_i64 t2
  obtain ⟨n3, e3⟩ := open_i64 t3
  obtain ⟨n4, e4⟩ := open_i64 t4
  obtain ⟨A, c, l, e5, hc, hK, hx⟩ := open_recs t5
  refine ⟨n0, n1, n2, n3, n4, A, c, l, ?_, hc, hK, hx⟩
  congr 1
  apply Array.ext
  · simpa using h6
  · intro i h1 h2
    match i, h1, h2 with
    | 0, _, _ => exact e0
    | 1, _, _ => exact e1
    | 2, _, _ => exact e2
    | 3, _, _ => exact e3
    | 4, _, _ => exact e4
    | 5, _, _ => exact e5
    | i + 6, h1, _ => omega

set_option maxHeartbeats 1000000 in
set_option maxRecDepth 100000 in
theorem law_all (p m : Bool) (pr ep sq : Int) (A : Option Addr) (c : Nat) (aB : List S67) (off : Int) (pe : Addr) (w : World) (ha : Kd.C k67 w A aB.length aB) (hc : aB.length ≤ c) (xa : ∀ x ∈ aB, x.f3.length ≤ 9223372036854775807 ∧ x.f5.length ≤ 9223372036854775807) (hge : w.cell? ⟨0, 0, none⟩ = some (.iface 136 (.pointer (some pe)))) :
    Calls Tryd.prog 3 #[.agg #[.bool p, .bool m, .int .i64 pr, .int .i64 ep, .int .i64 sq, .slice A aB.length c], .int .i64 off] w fun e w' => e = .returned (.bool true) ∧ Below w.heap.size w w' := by
  obtain ⟨K, hK⟩ : ∃ K, K = 100000000 + aB.length := ⟨_, rfl⟩
  obtain ⟨r1, s1, h1⟩ := szBatch p m pr ep sq aB K ha.2.1 xa (by omega)
  by_cases n1 : r1 < 0
  · have HA := Aside0.mk ha
    have HC0 := Aside0.mk hc
    have S1 := Aside0.mk s1
    have p0 : decide (r1 < 0) = true := decide_eq_true n1
    clear ha hc xa hge s1 h1 hK n1
    have hu24 := Tryd.underlying24
    go_enter Tryd.func3, Tryd.ntmps3
    go_wp2_with (first | ((with_reducible refine gate_dst (N := 2) rfl ?_); (try (refine gate_guard (by rfl) ?_; dsimp only)); refine box_event ?hg (N := 2) ?hd (cs := #[.bool p, .bool m, .int .i64 pr, .int .i64 ep, .int .i64 sq, .slice A aB.length c]) (t := 24) ?hr ?_; (case hd => rfl); (case hg => rfl); (case hr => first | (go_simp; done) | (go_simp; rfl)); intro g2 hg w1 hbox hb; have HB1 := Aside0.mk hb; clear hb hg; have z2_0 : w1.cell? ⟨g2, 0, none⟩ = some (.bool p) := blk_cell hbox 0; have z2_1 : w1.cell? ⟨g2, 1, none⟩ = some (.bool m) := blk_cell hbox 1; have z2_2 : w1.cell? ⟨g2, 2, none⟩ = some (.int .i64 pr) := blk_cell hbox 2; have z2_3 : w1.cell? ⟨g2, 3, none⟩ = some (.int .i64 ep) := blk_cell hbox 3; have z2_4 : w1.cell? ⟨g2, 4, none⟩ = some (.int .i64 sq) := blk_cell hbox 4; have z2_5 : w1.cell? ⟨g2, 5, none⟩ = some (.slice A aB.length c) := blk_cell hbox 5; clear hbox))
    clear z2_0 z2_1 z2_2 z2_3 z2_4 z2_5
    refine (laws_szBatch.calls K p m pr ep sq A c aB 1048576 r1 _ (Kd.C_below HA.out HB1.out) HC0.out S1.out).mono ?_
    rintro e w2 ⟨rfl, hb⟩
    have HW := Aside0.mk (below_step HB1.out hb)
    clear hb
    go_wp2
    go_ret
    exact ⟨rfl, HW.out⟩
  · have h1' := h1.resolve_left n1
    exact law_small K (by omega) p m pr ep sq A c aB off r1 pe w ha hc hge s1 (by omega) (by omega)
end Go.Proofs.YtlhbclblehmdbaaDoor.PFnExactBatchCut

namespace Go.Proofs.YtlhbclblehmdbaaDoor.fnExactBatchCut
open Go.ChangeShapes Go.WideShapes Go.ChangeAt Go.RowKit
open Go.Proofs.YtlhbclblehmdbaaDoorW
theorem own : ownKnob Tryd.prog.godebug = none := by kernel_rfl
theorem laidOut : laidOutB Tryd.prog = true := by kernel_rfl
theorem gN : Tryd.prog.globalNamed "loop.example/recordbatches/impl.errNoCut" = some 0 := by kernel_rfl
theorem gT : (Tryd.prog.globals[0]?).map (·.type) = some 50 := by kernel_rfl
theorem star : "*" ++ "errors.errorString" = "*errors.errorString" := by decide
theorem row136 (u : TypeId) (h : Tryd.prog.typeName? 3 u = some "*errors.errorString") : u = 136 :=
  typeName_ptr_named (nm := "errors.errorString") (by rw [star]; kernel_rfl) (by kernel_rfl) (by decide) u (by rw [star]; exact h)
/-- The door's own heap meets the condition. -/
theorem door_met (os : Os) (args : Array Value) : laidMetH Tryd.prog Rows.fnExactBatchCutRow.laid ((World.doorLaid Tryd.prog 62 os).forCall (fun _ _ => 0) ⟨#[], args, []⟩).memory :=
  laidMetH_of_parts3 (fuel := 8) (laidMet_of_run' 8 (by kernel_rfl) (by kernel_rfl)) (by kernel_rfl) (by kernel_rfl)
set_option maxRecDepth 100000 in
theorem lifted (os : Os) (started : os.Started) (H : Type) (enc : TypeId × Value → H) :
    ReturnsInHanded {} Tryd.checked os 3 .any (fun w args => (Rows.fnExactBatchCutSpec.pre enc Tryd.prog Tryd.f3 Rows.fnExactBatchCutRow.domain false w args ∧ laidMetH Tryd.prog Rows.fnExactBatchCutRow.laid w) ∧ sizedMet enc Tryd.prog Tryd.f3 (OpenSpec.ofChange Rows.fnExactBatchCutSpec) false w args)
      (Rows.fnExactBatchCutSpec.post enc Tryd.prog Tryd.f3 false true false false) := by
  refine returnsInHanded_of_change_and (C := Tryd.checked) (X := fun w _ => laidMetH Tryd.prog Rows.fnExactBatchCutRow.laid w) (fun _ _ _ hh h => h.of_heap hh) own started (by kernel_rfl) Tryd.func3
    (ChangeSpec.witness_shaped (enc := enc) (C := Tryd.checked) (os := os) (X := fun w _ => laidMetH Tryd.prog Rows.fnExactBatchCutRow.laid w) false (World.doorLaid Tryd.prog 62 os) #[.agg #[.bool false, .bool false, .int .i64 0, .int .i64 0, .int .i64 0, .slice none 0 0], .int .i64 0] 8 rfl (World.shaped_of_RefB (by kernel_rfl) (by kernel_rfl)) (by kernel_rfl) (by kernel_rfl) (by kernel_rfl) (door_met os _)) ?_
  intro W base args ds gs before hval0 hW hcnd hsz0 hL _
  have hval : ∀ (j : Nat) t v, Tryd.f3.params[j]? = some t → args[j]? = some v → Value.okWide Tryd.prog W .any base t v := hval0
  have hW' := hW
  obtain ⟨p, q, hA0, hV0, rfl, hfz, hnd⟩ := hW
  have hA : DataW.TrodAll enc Tryd.prog W 0 (fun _ => true) true Tryd.f3.params.toList args.toList ds p := hA0
  have hV : DataW.TrodVars enc Tryd.prog W (fun _ => true) ["loop.example/recordbatches/impl.errNoCut"] gs q := hV0
  rw [Tryd.params3] at hA hval
  obtain ⟨v0, vs0, d0, ds0, p0, q0, hargs, rfl, rfl, h0, r0⟩ := trodAll_cons hA
  obtain ⟨v1, vs1, d1, ds1, p1, q1, rfl, rfl, rfl, h1, r1⟩ := trodAll_cons r0
  obtain ⟨rfl, rfl, rfl⟩ := trodAll_nil r1
  obtain rfl : args = #[v0, v1] := by cases args; simp_all
  have hL2 := hL
  rw [MakeChecks.laidMetH_plain _ _ _ (by kernel_rfl)] at hL2
  obtain ⟨a, s, hv0, hc0, hs0, hz0⟩ := laid_sentinel hL2 gN gT Tryd.underlying50 row136 Tryd.underlying136 Tryd.underlying159 rfl rfl Tryd.underlying9 (by kernel_rfl) (by kernel_rfl)
  have vr : ∀ {X : World}, X.var? Tryd.prog "loop.example/recordbatches/impl.errNoCut" = some #[.iface 136 (.pointer (some a))] → ∀ sp : Nat → Bool,
      DataW.TrodVars enc Tryd.prog X sp ["loop.example/recordbatches/impl.errNoCut"] [tok enc (.iface 136 (.pointer (some a)))] [.cell 0 0] :=
    fun x0 sp => vars_read1 enc gN gT Tryd.underlying50 x0 trivial sp
  obtain ⟨rfl, rfl⟩ := hV.unique (vr hv0 _)
  have hg0 : W.cell? ⟨0, 0, none⟩ = some (.iface 136 (.pointer (some a))) := by simpa using World.var?_cell gN hv0 0
  have k0 := h0
  have k1 := h1
  have lt0 : ∀ x ∈ p0, x.block < W.heap.size := by obtain ⟨m, hm⟩ := k0; exact DataW.trod_lt m _ _ _ hm
  have lt1 : ∀ x ∈ p1, x.block < W.heap.size := by obtain ⟨m, hm⟩ := k1; exact DataW.trod_lt m _ _ _ hm
  obtain ⟨bp, bm, pr, ep, sq, A, c, l, rfl, hc, g0, x0⟩ := PFnExactBatchCut.open_batch (hval 0 24 v0 rfl rfl) h0
  obtain ⟨n, rfl⟩ : ∃ n, v1 = .int .i64 n := by
    obtain ⟨m, hm⟩ := h1
    obtain ⟨n, rfl, _⟩ := open_int Tryd.underlying3 (hval 1 3 v1 rfl rfl) ⟨m, hm⟩
    exact ⟨n, rfl⟩
  clear hA0 hV0 hval0 hsz0 hval hA r0 r1
  refine (PFnExactBatchCut.law_all bp bm pr ep sq A c l n a W g0 hc x0 hg0).mono fun e W' ⟨he, bel⟩ => ?_
  subst he
  have hv1 : W'.var? Tryd.prog "loop.example/recordbatches/impl.errNoCut" = some #[.iface 136 (.pointer (some a))] := Go.Joins.var_stays gN hv0 bel (Nat.le_refl _)
  exact ⟨_, rfl, _, _, _, [], _, [.cell 0 0], hW', trodAll_mk1 (shut_bool Tryd.underlying4 _), (trodAll_cons_mk (Below.trod laidOut (by kernel_rfl) (of_decide_eq_true (by kernel_rfl)) k0 bel lt0) (trodAll_cons_mk (Below.trod laidOut (by kernel_rfl) (of_decide_eq_true (by kernel_rfl)) k1 bel lt1) trodAll_mk0)), vr hv1 _, bel.frame _, fun h => by cases h⟩
theorem over : Rows.fnExactBatchCutRow.holds Tryd.pinned (OpenSpec.ofChange Rows.fnExactBatchCutSpec) :=
  OpenClaim.holds_of_wide 3 Tryd.f3 rfl rfl rfl rfl rfl rfl rfl ⟨rfl, rfl, rfl, rfl, rfl⟩ rfl rfl rfl rfl rfl (by kernel_rfl) Tryd.func3 (by kernel_rfl)
    (of_decide_eq_true (by kernel_rfl)) (by unfold Func.isWrapper; first | (rw [if_pos (by decide +kernel)]; kernel_rfl) | (rw [if_neg (by decide +kernel)]; exact ⟨rfl, rfl⟩))
    (fun os started H enc _ => lifted os started H enc)
theorem card : Rows.FnExactBatchCutCardSaid :=
  Claim7.holds_tied_plain_at .later [] [.sentinel] true (true, "d7d0ae38050f6729477d5215752cc5ddc8415cba5d231be26b759684161f1b3e") true
    over (fun _ h => by cases h) (by kernel_rfl) (fun _ h => by cases h) fnExactBatchCut_row_tie rfl ⟨rfl, rfl⟩ (by kernel_rfl) rfl
    (fun f fn hf hfn => by
      obtain rfl : f = 3 := Option.some.inj ((show Tryd.prog.funcNamed "loop.example/recordbatches/laws.FnExactBatchCut" = some 3 by kernel_rfl).symm.trans hf) |>.symm
      obtain rfl : fn = Tryd.f3 := (Option.some.inj (Tryd.func3.symm.trans hfn)).symm
      exact ⟨by kernel_rfl, fun j t ht => by
        rw [Tryd.params3] at ht
        have h3 : t = 24 ∨ t = 3 := by
          rcases j with _ | _ | j
          · exact .inl (by simpa using ht.symm)
          · exact .inr (by simpa using ht.symm)
          · simp at ht
        rcases h3 with rfl | rfl
        · exact (show Tryd.prog.wantsStandIn 24 = false by kernel_rfl)
        · exact (show Tryd.prog.wantsStandIn 3 = false by kernel_rfl)⟩)
    (by kernel_rfl)
#print axioms card
end Go.Proofs.YtlhbclblehmdbaaDoor.fnExactBatchCut
namespace Go.Proofs.YtlhbclblehmdbaaDoor
/-- The card, under a short name, for the claim. -/
theorem fnExactBatchCut_card : Rows.FnExactBatchCutCardSaid := fnExactBatchCut.card
end Go.Proofs.YtlhbclblehmdbaaDoor
