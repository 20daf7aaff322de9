/- The gates of the print's later words that these texts use, alone. -/
import Derived.Test.YtlhbclblehmdbaaDoorWWords
import Derived.BigQuiet
namespace Go.Proofs.YtlhbclblehmdbaaDoorW.PrintMore
open Go.RowKit Go.Proofs.YtlhbclblehmdbaaDoorW.PrintWords
end Go.Proofs.YtlhbclblehmdbaaDoorW.PrintMore
namespace Go.Proofs.YtlhbclblehmdbaaDoorW.PrintWords
open Go.RowKit
section
variable {P : Program} {ops : Array Oper} {rest : List Oper} {o : Oper} {a : Act} {Q : Exit → Act → World → Prop} {W : World}
/-- The operation is a call of this function. -/
theorem gate_callee {f : FuncId} {as : Array Operand} {ts : Array TypeId} (_ho : o.op = .call { callee := .value (.func f), args := as, argTypes := ts }) (h : wpList P ops Q (o :: rest) a W) : wpList P ops Q (o :: rest) a W := h
/-- The operation is a builtin over these places. -/
theorem gate_builtin {b : Builtin} {xs : Array Operand} {ts : Array TypeId} (_ho : o.op = .call { callee := .builtin b, args := xs, argTypes := ts }) (h : wpList P ops Q (o :: rest) a W) : wpList P ops Q (o :: rest) a W := h
end
end Go.Proofs.YtlhbclblehmdbaaDoorW.PrintWords
namespace Go
/-- A world in which all that lay in w0 lies as it was. -/
structure BelowBy (w0 : World) where
  wd : World
  h : RowKit.Below w0.heap.size w0 wd
instance (w0 : World) : Inhabited (BelowBy w0) := ⟨⟨w0, RowKit.Below.refl _ _⟩⟩
theorem wp_region_quiet_below {P : Program} {id : Nat} {Q : Exit → Act → World → Prop} {a : Act} {w : World} {l : List Oper} (hm : P.follows .mixedOrders = true) (hB : Region.lexB .any l.toArray = true)
    (h : wpQuiet P l.toArray (fun w' => ∃ p : BelowBy w, w' = p.wd) (fun a' => ∀ w', (∃ p : BelowBy w, w' = p.wd) → Q .normal a' w') l a) : (Code.region id l.toArray true).wp P Q a w :=
  wp_region_quiet (C := fun w' => ∃ p : BelowBy w, w' = p.wd) hm hB ⟨⟨w.drew, (RowKit.Below.refl _ _).drew⟩, rfl⟩ (by simpa using h)
theorem Calls.below_of {P : Program} {f : FuncId} {args : Array Value} {w : World} {p : BelowBy w} {v : Value}
    (h : Calls P f args p.wd fun e w' => e = .returned v ∧ RowKit.Below p.wd.heap.size p.wd w') : Calls P f args p.wd fun e w'' => e = .returned v ∧ ∃ q : BelowBy w, w'' = q.wd :=
  h.mono fun _ w'' ⟨he, hb⟩ => ⟨he, ⟨w'', p.h.trans (hb.mono p.h.size)⟩, rfl⟩
theorem BelowBy.cell {w : World} (p : BelowBy w) {a : Addr} {v : Value} (h : w.cell? a = some v) : p.wd.cell? a = some v := (p.h.cell (World.block_lt_of_cell? w a h)).trans h
theorem BelowBy.spec {w w' : World} (h : ∃ p : BelowBy w, w' = p.wd) : RowKit.Below w.heap.size w w' := by
  obtain ⟨p, rfl⟩ := h
  exact p.h
end Go
