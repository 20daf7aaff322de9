/- A region that only reads and whose callees leave what lay before them as it was, walked once; strings.Compare, the closure of put, slices.BinarySearchFunc at groups. -/
import Derived.Test.YtlhbclblehmdbaaPFnExactGroupsPutx1
import Derived.Test.YtlhbclblehmdbaaG0
import Derived.BigQuiet
import Derived.Lib.Bytealg
import Derived.Deep.LoopGhost
set_option linter.unusedVariables false
set_option linter.unusedSimpArgs false
namespace Go
/-- A world in which all that lay in w0 lies as it was. -/
structure BelowBy (w0 : World) where
  wd : World
  h : RowKit.Below w0.heap.size w0 wd
instance (w0 : World) : Inhabited (BelowBy w0) := ⟨⟨w0, RowKit.Below.refl _ _⟩⟩
theorem wp_region_quiet_below {P : Program} {id : Nat} {Q : Exit → Act → World → Prop} {a : Act} {w : World} {l : List Oper} (hm : P.follows .mixedOrders = true) (hB : Region.lexB .any l.toArray = true)
    (h : wpQuiet P l.toArray (fun w' => ∃ p : BelowBy w, w' = p.wd) (fun a' => ∀ w', (∃ p : BelowBy w, w' = p.wd) → Q .normal a' w') l a) : (Code.region id l.toArray true).wp P Q a w :=
  wp_region_quiet (C := fun w' => ∃ p : BelowBy w, w' = p.wd) hm hB ⟨⟨w.drew, (RowKit.Below.refl _ _).drew⟩, rfl⟩ (by simpa using h)
theorem Calls.below_of {P : Program} {f : FuncId} {args : Array Value} {w : World} {p : BelowBy w} {v : Value}
    (h : Calls P f args p.wd fun e w' => e = .returned v ∧ RowKit.Below p.wd.heap.size p.wd w') : Calls P f args p.wd fun e w'' => e = .returned v ∧ ∃ q : BelowBy w, w'' = q.wd :=
  h.mono fun _ w'' ⟨he, hb⟩ => ⟨he, ⟨w'', p.h.trans (hb.mono p.h.size)⟩, rfl⟩
theorem BelowBy.cell {w : World} (p : BelowBy w) {a : Addr} {v : Value} (h : w.cell? a = some v) : p.wd.cell? a = some v := (p.h.cell (World.block_lt_of_cell? w a h)).trans h
theorem BelowBy.spec {w w' : World} (h : ∃ p : BelowBy w, w' = p.wd) : RowKit.Below w.heap.size w w' := by
  obtain ⟨p, rfl⟩ := h
  exact p.h
end Go
namespace Go.Proofs.Ytlhbclblehmdbaa.PFnExactGroupsPut
open Go.RowKit Go.Proofs.YtlhbclblehmdbaaW.PrintWords Go.Proofs.YtlhbclblehmdbaaW.PrintLast Go.Proofs.YtlhbclblehmdbaaW.PrintMore

def cmpS (a b : ByteArray) : Int := Lib.compareBytes a.data.toList b.data.toList
set_option maxRecDepth 100000 in
set_option maxHeartbeats 1000000 in
theorem bytealg_CompareString.calls (a b : ByteArray) (w : World) : Calls Try.prog 79 #[.string a, .string b] w fun e w' => e = .returned (.int .i64 (cmpS a b)) ∧ w' = w := by
  go_enter Try.func79, Try.ntmps79
  go_wp2
  rw [run_callFunc_extern Try.func106 (by kernel_rfl) (by kernel_rfl) (by kernel_rfl) (e := Extern.BytealgCompare.compare) (by kernel_rfl), Lib.run_compareString]
  simp only [Result.andThen]
  rw [Oper.upon_value]
  go_wp2
  go_ret
  exact ⟨rfl, rfl⟩
set_option maxRecDepth 100000 in
set_option maxHeartbeats 1000000 in
theorem strings_Compare.calls (a b : ByteArray) (w : World) : Calls Try.prog 66 #[.string a, .string b] w fun e w' => e = .returned (.int .i64 (cmpS a b)) ∧ w' = w := by
  go_enter Try.func66, Try.ntmps66
  go_wp2_with (go_at_call 79; refine (bytealg_CompareString.calls _ _ _).mono ?_; rintro e w' ⟨rfl, rfl⟩)
  go_ret
  exact ⟨rfl, rfl⟩
set_option maxHeartbeats 2000000 in
set_option maxRecDepth 100000 in
theorem put1.calls (a b : ByteArray) (x y : Int) (w : World) : Calls Try.prog 65 #[.agg #[.string a, .int .i64 x], .agg #[.string b, .int .i64 y]] w fun e w' => e = .returned (.int .i64 (cmpS a b)) ∧ Below w.heap.size w w' := by
  have hu34 := Try.underlying34
  go_enter Try.func65, Try.ntmps65
  go_wp2_with (first | ((with_reducible refine gate_dst (N := 2) rfl ?_); refine box_event ?hg (N := 2) ?hd (cs := #[.string a, .int .i64 x]) (t := 34) ?hr ?_; (case hd => rfl); (case hg => rfl); (case hr => first | (go_simp; done) | (go_simp; rfl)); intro g1 hg w1 hbox hb; have BK1 := Aside0.mk hbox; have HB1 := Aside0.mk hb; clear hg hbox hb) | ((with_reducible refine gate_dst (N := 3) rfl ?_); refine box_event ?hg (N := 3) ?hd (cs := #[.string b, .int .i64 y]) (t := 34) ?hr ?_; (case hd => rfl); (case hg => rfl); (case hr => first | (go_simp; done) | (go_simp; rfl)); intro g2 hg w2 hbox hb; have BK2 := Aside0.mk hbox; have HB2 := Aside0.mk (below_step HB1.out hb); replace BK1 := Aside0.mk (blk_below BK1.out hb); clear hg hbox hb; have hx1 : w2.cell? ⟨g1, 0, none⟩ = some (.string a) := blk_cell BK1.out 0; have hx2 : w2.cell? ⟨g2, 0, none⟩ = some (.string b) := blk_cell BK2.out 0) | (go_at_call 66; refine (strings_Compare.calls _ _ _).mono ?_; rintro e w' ⟨rfl, rfl⟩))
  go_ret
  exact ⟨rfl, HB2.out⟩
end Go.Proofs.Ytlhbclblehmdbaa.PFnExactGroupsPut
