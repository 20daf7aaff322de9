/- Rules for a region that holds a send or a receive on a buffered channel, in a program of one goroutine: a send finds room in the buffer, a receive finds something in it or finds the channel closed. -/
import Derived.Conc.LoneCalls
import Derived.WalkKit
set_option linter.unusedVariables false
set_option linter.unusedSimpArgs false
namespace Go.Proofs.Ytlhbclblehmdbaa.Comm
open Go Go.Conc

/-- The region's operations from a list of places on, whatever stands behind the region. -/
def RL (P : Program) (ops : Array Oper) (Q : Exit → Act → World → Prop) (l : List Nat) (a : Act) (w : World) : Prop :=
  ∀ (b : Frame) (k : List Item) (cs : List Frame), ∃ e a' w', Q e a' w' ∧ Arrives P (lone (b.at a (.inRegion ops l :: k)) cs w) b k cs e a' w'

section
variable {P : Program} {ops : Array Oper} {Q Q' : Exit → Act → World → Prop} {a : Act} {w : World}

theorem RL.region {id : Nat} (h : RL P ops Q (List.range ops.size) a w) : (Code.region id ops false).wp P Q a w :=
  fun b k cs => let ⟨e, a', w', q, r⟩ := h b k cs; ⟨e, a', w', q, .of_steps (.one step_region) r⟩

theorem RL.end_ (h : Q .normal a w) : RL P ops Q [] a w := fun _ _ _ => ⟨.normal, a, w, h, .one step_region_end⟩

theorem Oper.upon_imp {o : Oper} {next next' : Act → World → Prop} {r : Result Next} (hn : ∀ a w, next a w → next' a w) (hp : ∀ c a w, Q (.panic c) a w → Q' (.panic c) a w) (ho : LetsOut Q → LetsOut Q')
    (h : o.upon P a next Q r) : o.upon P a next' Q' r := by
  unfold Oper.upon at h ⊢
  split at h
  · exact hn _ _ h
  · exact hn _ _ h
  · exact hn _ _ h
  · refine Calls.mono h fun e w' he => ?_
    cases e with
    | returned v => exact hn _ _ he
    | panicked c => exact hp _ _ _ he
    | outgrown => exact ho he
  · exact Rows.mono h fun v w' hv => hn _ _ hv
  · exact hp _ _ _ h
  · exact h.elim

theorem RL.op {i : Nat} {rest : List Nat} {o : Oper} (ho : ops[i]? = some o) (hw : Region.wanted o (yielded ops a.tmps) = true) (h : o.wp P a w (RL P ops Q rest) Q ∨ (o.asks P a w ∧ LetsOut Q)) : RL P ops Q (i :: rest) a w := by
  intro b k cs
  rcases h with h | ⟨hasks, a₀, w₀, hq⟩
  case inr =>
    by_cases hk : b.kind = .early
    · exact ⟨.outgrown, a₀, w₀, hq, .inl hk⟩
    · exact ⟨.outgrown, a₀, w₀, hq, .inr (asks_outgrown ho hw hk hasks)⟩
  simp only [Oper.wp, Oper.upon] at h
  have hg := stepG_op (P := P) (b := b) (k := k) (cs := cs) (w := w) (rest := rest) ho hw
  have hfin : ∀ v, (b.at a (.inRegion ops (i :: rest) :: k)).finish v = b.at (a.put o.dst v) (.inRegion ops rest :: k) := fun v => by
    rw [Frame.finish_at, ho]; rfl
  split at h
  · rename_i v w' hr
    obtain ⟨e, a', w'', hq, harr⟩ := h b k cs
    refine ⟨e, a', w'', hq, .of_steps (.one (step_lone_go ?_)) harr⟩
    rw [hg, ← hfin]; simp [stepG.apply, hr]
  · rename_i w' hr
    obtain ⟨e, a', w'', hq, harr⟩ := h b k cs
    refine ⟨e, a', w'', hq, .of_steps (.one (step_lone_go ?_)) harr⟩
    rw [hg, ← hfin]; simp [stepG.apply, hr]
  · rename_i d w' hr
    obtain ⟨e, a', w'', hq, harr⟩ := h b k cs
    refine ⟨e, a', w'', hq, .of_steps (.one (step_lone_go ?_)) harr⟩
    have he : ({ b.at a (.inRegion ops (i :: rest) :: k) with defers := d :: a.defers } : Frame).finish undef = b.at ({ a with defers := d :: a.defers }.put o.dst undef) (.inRegion ops rest :: k) := by
      have h2 := Frame.finish_at b { a with defers := d :: a.defers } ops i rest k undef
      rw [ho] at h2; exact h2
    rw [hg]; simp only [stepG.apply, Sem.runT_eq, hr, GStep.bare_after]
    exact congrArg (fun fr => GStep.go { frame := fr, callers := cs, status := .running, dying := none } w') he
  · rename_i f args w' hr
    obtain ⟨e, w'', fr, hR, hsteps, _, hleave⟩ := h (b.at a (.inRegion ops (i :: rest) :: k) :: cs)
    have henter : step P (lone (b.at a (.inRegion ops (i :: rest) :: k)) cs w) = .next (lone (Frame.enter P f args .normal) (b.at a (.inRegion ops (i :: rest) :: k) :: cs) w') :=
      step_lone_go (by rw [hg]; simp [stepG.apply, hr, Frame.at])
    cases e with
    | returned v =>
      obtain ⟨e, a', w₃, hq, harr⟩ := hR b k cs
      refine ⟨e, a', w₃, hq, .of_steps (.head henter (hsteps.trans (.one ?_))) harr⟩
      rw [← hfin]; exact step_leave_returned hleave
    | panicked chain =>
      refine ⟨.panic chain, a, w'', hR, .inRegion ops (i :: rest) :: k, .head henter (hsteps.trans (.one ?_))⟩
      rw [← Frame.raise_at]; exact step_leave_panicked hleave
    | outgrown =>
      obtain ⟨a₀, w₀, hq⟩ := hR
      exact ⟨.outgrown, a₀, w₀, hq, .inr (Outgrown.of_steps (.one henter) hsteps)⟩
  · rename_i row args w' hr
    obtain ⟨v, w'', hR, hsteps⟩ := h (b.at a (.inRegion ops (i :: rest) :: k)) cs
    have henter : step P (lone (b.at a (.inRegion ops (i :: rest) :: k)) cs w) = .next (lone (Frame.ofRow P row args .normal) (b.at a (.inRegion ops (i :: rest) :: k) :: cs) w') :=
      step_lone_go (by rw [hg]; simp [stepG.apply, hr, Frame.at])
    obtain ⟨e, a', w₃, hq, harr⟩ := hR b k cs
    refine ⟨e, a', w₃, hq, .of_steps (.head henter ?_) harr⟩
    rw [← hfin]; exact hsteps
  · rename_i v w' hr
    refine ⟨_, a, w', h, .inRegion ops (i :: rest) :: k, .one (step_lone_go ?_)⟩
    rw [hg, ← Frame.raise_at]; simp [stepG.apply, hr]
  · exact h.elim

theorem RL.skip {i : Nat} {rest : List Nat} {o : Oper} (ho : ops[i]? = some o) (hw : Region.wanted o (yielded ops a.tmps) = false) (h : RL P ops Q rest (a.put o.dst undef) w) : RL P ops Q (i :: rest) a w := by
  intro b k cs
  obtain ⟨e, a', w', hq, harr⟩ := h b k cs
  have hs := step_op_skip (P := P) (b := b) (a := a) (k := k) (cs := cs) (w := w) (ops := ops) (i := i) (rest := rest) (by simp [ho, hw])
  simp only [ho, Option.bind_some] at hs
  exact ⟨e, a', w', hq, .of_steps (.one hs) harr⟩

/-- The operations ahead of the rest are walked as ever. -/
theorem RL.of_list (rest : List Nat) : ∀ (l : List Oper) (n : Nat) (a : Act) (w : World), (∀ j, j < l.length → ops[n + j]? = l[j]?) → wpList P ops (Exit.then (RL P ops Q rest) Q) l a w → RL P ops Q (List.range' n l.length ++ rest) a w
  | [], n, a, w, _, h => by simpa [wpList, Exit.then] using h
  | o :: l, n, a, w, hl, h => by
    have h0 : ops[n]? = some o := by simpa using hl 0 (by simp)
    have ih := RL.of_list rest l (n + 1)
    have hl' : ∀ j, j < l.length → ops[n + 1 + j]? = l[j]? := fun j hj => by
      have h2 := hl (j + 1) (by simpa using hj)
      rwa [show n + (j + 1) = n + 1 + j from by omega, List.getElem?_cons_succ] at h2
    simp only [List.length_cons, List.range'_succ, List.cons_append]
    unfold wpList at h
    split at h
    · rename_i hw
      refine RL.op h0 hw ?_
      rcases h with h | h
      · exact .inl (Oper.upon_imp (fun a' w' h2 => ih a' w' hl' h2) (fun _ _ _ h2 => h2) (fun h2 => h2) h)
      · exact .inr h
    · rename_i hw
      exact RL.skip h0 (by simpa using hw) (ih _ _ hl' h)

theorem RL.of_list_all (l : List Oper) (n : Nat) (hl : ∀ j, j < l.length → ops[n + j]? = l[j]?) (h : wpList P ops Q l a w) : RL P ops Q (List.range' n l.length) a w := by
  have h2 := RL.of_list (P := P) (ops := ops) (Q := Q) [] l n a w hl
  rw [List.append_nil] at h2
  refine h2 ?_
  clear h2 hl
  induction l generalizing a w with
  | nil => exact RL.end_ h
  | cons o l ih =>
    unfold wpList at h ⊢
    split at h
    · rename_i hw
      rw [if_pos hw]
      rcases h with h | h
      · exact .inl (Oper.upon_imp (fun a' w' h2 => ih h2) (fun _ _ _ h2 => h2) (fun h2 => h2) h)
      · exact .inr h
    · rename_i hw
      rw [if_neg hw]
      exact ih h

theorem wpList_imp {X Y : Act → World → Prop} (hxy : ∀ a w, X a w → Y a w) : ∀ {l : List Oper} {a : Act} {w : World}, wpList P ops (Exit.then X Q) l a w → wpList P ops (Exit.then Y Q) l a w
  | [], a, w, h => hxy a w h
  | o :: l, a, w, h => by
    unfold wpList at h ⊢
    split at h
    · rename_i hw
      rw [if_pos hw]
      rcases h with h | h
      · exact .inl (Oper.upon_imp (fun a' w' h2 => wpList_imp hxy h2) (fun _ _ _ h2 => h2) (fun h2 => h2) h)
      · exact .inr h
    · rename_i hw
      rw [if_neg hw]
      exact wpList_imp hxy h

/-! ### A communication is one step -/
variable {i : Nat} {rest : List Nat} {o : Oper} {c cap s r : Nat} {buf : Array Value} {tm closed : Bool} {v z : Value}

theorem comm_stepG {cases : Array CommCase} {shape : CommShape} {w₁ : World} (ho : ops[i]? = some o) (hw : Region.wanted o (yielded ops a.tmps) = true) (hrun : (execOp a.eval o).run P w = .ok (.comm cases true shape) w₁) (b : Frame) (k : List Item) (cs : List Frame) :
    ∃ es, stepG P true (G (b.at a (.inRegion ops (i :: rest) :: k)) cs) w = .comm (G (b.at a (.inRegion ops (i :: rest) :: k)) cs) cases true shape w₁ es := by
  have hg := stepG_op (P := P) (b := b) (k := k) (cs := cs) (w := w) (rest := rest) ho hw
  unfold G
  rw [hg]
  simp only [stepG.apply, Sem.runT_eq, hrun, if_true]
  exact ⟨_, rfl⟩

theorem RL.send (ho : ops[i]? = some o) (hgd : o.guard = none) {x y : Operand} (hop : o.op = .send x y) (hx : a.eval x = .chan (some c)) (hy : a.eval y = v) (hc : w.heap[c]? = some (.chan cap buf false s r tm)) (hroom : buf.size < cap)
    (h : RL P ops Q rest (a.put o.dst undef) (w.setChan c cap (buf.push v) false (s + 1) r tm)) : RL P ops Q (i :: rest) a w := by
  intro b k cs
  have hw : Region.wanted o (yielded ops a.tmps) = true := by simp [Region.wanted, hgd]
  have hrun : (execOp a.eval o).run P w = .ok (.comm #[scase c v (.tuple #[])] true .send) w := by
    unfold execOp; simp only [hop, hx, hy]; rfl
  obtain ⟨es, hs⟩ := comm_stepG (rest := rest) ho hw hrun b k cs
  have hst := step_lone_send_room hs hc hroom
  obtain ⟨e, a', w', hq, harr⟩ := h b k cs
  refine ⟨e, a', w', hq, .of_steps (.one ?_) harr⟩
  rw [lone_eq_solo, lone_eq_solo, hst, Frame.finish_at, ho]
  rfl

theorem recv_run {t : TypeId} {x : Operand} {ok : Bool} {d : ChanDir} {e : TypeId} {i0 : TypeInfo} (hop : o.op = .recv t x ok) (hx : a.eval x = .chan (some c)) (ht : P.underlying t = some (.chan d e)) (hi : P.info? e = some i0) (hz : i0.zero = some z) :
    (execOp a.eval o).run P w = .ok (.comm #[rcase c z] true (.recv ok)) w := by
  unfold execOp
  simp only [hop, hx]
  simp [run_underlying ht, zeroValue, typeInfo, hi, hz, rcase]

theorem RL.recv_buf (ho : ops[i]? = some o) (hgd : o.guard = none) {t : TypeId} {x : Operand} {ok : Bool} {d : ChanDir} {e : TypeId} {i0 : TypeInfo} (hop : o.op = .recv t x ok) (hx : a.eval x = .chan (some c)) (ht : P.underlying t = some (.chan d e)) (hi : P.info? e = some i0) (hz : i0.zero = some z)
    (hc : w.heap[c]? = some (.chan cap buf closed s r tm)) (hsome : 0 < buf.size)
    (h : RL P ops Q rest (a.put o.dst (got ok (buf.getD 0 undef) true)) (w.setChan c cap (buf.extract 1 buf.size) closed s (r + 1) tm)) : RL P ops Q (i :: rest) a w := by
  intro b k cs
  have hw : Region.wanted o (yielded ops a.tmps) = true := by simp [Region.wanted, hgd]
  obtain ⟨es, hs⟩ := comm_stepG (rest := rest) ho hw (recv_run (w := w) hop hx ht hi hz) b k cs
  have hst := step_lone_recv_buf ok hs hc hsome
  obtain ⟨e, a', w', hq, harr⟩ := h b k cs
  refine ⟨e, a', w', hq, .of_steps (.one ?_) harr⟩
  rw [lone_eq_solo, lone_eq_solo, hst, Frame.finish_at, ho]
  rfl

theorem RL.recv_shut (ho : ops[i]? = some o) (hgd : o.guard = none) {t : TypeId} {x : Operand} {ok : Bool} {d : ChanDir} {e : TypeId} {i0 : TypeInfo} (hop : o.op = .recv t x ok) (hx : a.eval x = .chan (some c)) (ht : P.underlying t = some (.chan d e)) (hi : P.info? e = some i0) (hz : i0.zero = some z)
    (hc : w.heap[c]? = some (.chan cap #[] true s r tm))
    (h : RL P ops Q rest (a.put o.dst (got ok z false)) w) : RL P ops Q (i :: rest) a w := by
  intro b k cs
  have hw : Region.wanted o (yielded ops a.tmps) = true := by simp [Region.wanted, hgd]
  obtain ⟨es, hs⟩ := comm_stepG (rest := rest) ho hw (recv_run (w := w) hop hx ht hi hz) b k cs
  have hst := step_lone_recv_shut ok hs hc
  obtain ⟨e, a', w', hq, harr⟩ := h b k cs
  refine ⟨e, a', w', hq, .of_steps (.one ?_) harr⟩
  rw [lone_eq_solo, lone_eq_solo, hst, Frame.finish_at, ho]
  rfl

/-! ### The same, the region's text in view -/
/-- The operations l stand from place n on. -/
def RLo (P : Program) (ops : Array Oper) (Q : Exit → Act → World → Prop) (n : Nat) (l : List Oper) (a : Act) (w : World) : Prop := ops.toList.drop n = l → RL P ops Q (List.range' n l.length) a w

theorem drop_at {n : Nat} {l : List Oper} (h : ops.toList.drop n = l) (j : Nat) : ops[n + j]? = l[j]? := by
  rw [← h, List.getElem?_drop, Array.getElem?_toList]

theorem RLo.walk {n : Nat} {l : List Oper} (h : wpList P ops Q l a w) : RLo P ops Q n l a w := fun hl => RL.of_list_all l n (fun j _ => drop_at hl j) h

theorem RLo.split {id : Nat} (n : Nat) {l : List Oper} (h : wpList P l.toArray (Exit.then (RLo P l.toArray Q n (l.drop n)) Q) (l.take n) a w) : (Code.region id l.toArray false).wp P Q a w := by
  refine RL.region ?_
  rcases Nat.le_total n l.length with hn | hn
  · have hr : List.range l.toArray.size = List.range' 0 (l.take n).length ++ List.range' n (l.drop n).length := by
      rw [List.size_toArray, List.range_eq_range', List.length_take, List.length_drop, Nat.min_eq_left hn]
      have := List.range'_append (s := 0) (m := n) (n := l.length - n) (step := 1)
      rw [show n + (l.length - n) = l.length from by omega] at this
      simpa using this.symm
    rw [hr]
    refine RL.of_list _ _ 0 a w (fun j hj => ?_) ?_
    · rw [Nat.zero_add, List.getElem?_toArray, List.getElem?_take, if_pos (by rw [List.length_take] at hj; omega)]
    · exact wpList_imp (fun a w h2 => h2 (by simp)) h
  · have hd : l.drop n = [] := List.drop_eq_nil_of_le hn
    have ht : l.take n = l := List.take_of_length_le hn
    rw [ht, hd] at h
    have h2 := RL.of_list (P := P) (ops := l.toArray) (Q := Q) [] l 0 a w (fun j _ => by simp) (wpList_imp (fun a w h2 => by have := h2 (by simp [hd]); simpa using this) h)
    simpa [List.range_eq_range'] using h2

theorem RLo.send {n : Nat} {l : List Oper} (hgd : o.guard = none) {x y : Operand} (hop : o.op = .send x y) (hx : a.eval x = .chan (some c)) (hy : a.eval y = v) (hc : w.heap[c]? = some (.chan cap buf false s r tm)) (hroom : buf.size < cap)
    (h : RLo P ops Q (n + 1) l (a.put o.dst undef) (w.setChan c cap (buf.push v) false (s + 1) r tm)) : RLo P ops Q n (o :: l) a w := fun hl => by
  have h1 : ops.toList.drop (n + 1) = l := by rw [← List.drop_drop, hl]; rfl
  exact RL.send (by simpa using drop_at hl 0) hgd hop hx hy hc hroom (h h1)

theorem RLo.recv_buf {n : Nat} {l : List Oper} (hgd : o.guard = none) {t : TypeId} {x : Operand} {ok : Bool} {d : ChanDir} {e : TypeId} (hop : o.op = .recv t x ok) (hx : a.eval x = .chan (some c)) (ht : P.underlying t = some (.chan d e)) (hi : (P.info? e).map (fun i => i.zero) = some (some z))
    (hc : w.heap[c]? = some (.chan cap buf closed s r tm)) (hsome : 0 < buf.size)
    (h : RLo P ops Q (n + 1) l (a.put o.dst (got ok (buf.getD 0 undef) true)) (w.setChan c cap (buf.extract 1 buf.size) closed s (r + 1) tm)) : RLo P ops Q n (o :: l) a w := fun hl => by
  have h1 : ops.toList.drop (n + 1) = l := by rw [← List.drop_drop, hl]; rfl
  obtain ⟨i0, hi0, hz⟩ := Option.map_eq_some_iff.1 hi
  exact RL.recv_buf (by simpa using drop_at hl 0) hgd hop hx ht hi0 hz hc hsome (h h1)

theorem RLo.recv_shut {n : Nat} {l : List Oper} (hgd : o.guard = none) {t : TypeId} {x : Operand} {ok : Bool} {d : ChanDir} {e : TypeId} (hop : o.op = .recv t x ok) (hx : a.eval x = .chan (some c)) (ht : P.underlying t = some (.chan d e)) (hi : (P.info? e).map (fun i => i.zero) = some (some z))
    (hc : w.heap[c]? = some (.chan cap #[] true s r tm))
    (h : RLo P ops Q (n + 1) l (a.put o.dst (got ok z false)) w) : RLo P ops Q n (o :: l) a w := fun hl => by
  have h1 : ops.toList.drop (n + 1) = l := by rw [← List.drop_drop, hl]; rfl
  obtain ⟨i0, hi0, hz⟩ := Option.map_eq_some_iff.1 hi
  exact RL.recv_shut (by simpa using drop_at hl 0) hgd hop hx ht hi0 hz hc (h h1)

/-- A receive from a closed channel whose buffer, at first buf, has been read up to place i: the next value, or the zero. -/
theorem RLo.recv_next {n : Nat} {l : List Oper} (hgd : o.guard = none) {t : TypeId} {x : Operand} {d : ChanDir} {e : TypeId} (hop : o.op = .recv t x true) (hx : a.eval x = .chan (some c)) (ht : P.underlying t = some (.chan d e)) (hi : (P.info? e).map (fun i => i.zero) = some (some z))
    (m : Nat) (hc : w.heap[c]? = some (.chan cap (buf.extract m buf.size) true s r tm)) (v : Value) (b : Bool) (hv : v = if m < buf.size then buf.getD m undef else z) (hb : b = decide (m < buf.size))
    (h : ∀ r' w', w' = w.setChan c cap (buf.extract (m + 1) buf.size) true s r' tm → RLo P ops Q (n + 1) l (a.put o.dst (.tuple #[v, .bool b])) w') : RLo P ops Q n (o :: l) a w := by
  subst hv hb
  by_cases hm : m < buf.size
  · refine RLo.recv_buf hgd hop hx ht hi hc (by simp; omega) ?_
    have e1 : (buf.extract m buf.size).getD 0 undef = buf.getD m undef := by
      rw [Array.getD_eq_getD_getElem?, Array.getD_eq_getD_getElem?, Array.getElem?_extract, if_pos (by omega), Nat.add_zero]
    have e2 : (buf.extract m buf.size).extract 1 (buf.extract m buf.size).size = buf.extract (m + 1) buf.size := by
      rw [Array.extract_extract]; congr 1; simp; omega
    rw [e1, e2]
    have h2 := h (r + 1) _ rfl
    simpa [hm, got] using h2
  · refine RLo.recv_shut hgd hop hx ht hi (cap := cap) (s := s) (r := r) (tm := tm) ?_ ?_
    · rw [hc]
      have : buf.extract m buf.size = #[] := by apply Array.eq_empty_of_size_eq_zero; simp; omega
      rw [this]
    · have e0 : buf.extract m buf.size = buf.extract (m + 1) buf.size := by
        have h1 : buf.extract m buf.size = #[] := by apply Array.eq_empty_of_size_eq_zero; simp; omega
        have h2 : buf.extract (m + 1) buf.size = #[] := by apply Array.eq_empty_of_size_eq_zero; simp; omega
        rw [h1, h2]
      have hw : w = w.setChan c cap (buf.extract (m + 1) buf.size) true s r tm := by
        rw [e0] at hc
        unfold World.setChan
        have : w.heap.setIfInBounds c (.chan cap (buf.extract (m + 1) buf.size) true s r tm) = w.heap := by
          apply Array.ext
          · simp
          · intro k h1 h2
            rw [Array.getElem_setIfInBounds]
            split
            · rename_i hk
              subst hk
              rw [Array.getElem?_eq_getElem h2] at hc
              exact (Option.some.inj hc).symm
            · rfl
        rw [this]
      have h2 := h r w hw
      simpa [hm, got] using h2
end
end Go.Proofs.Ytlhbclblehmdbaa.Comm
