/- RX, part 9: loops' heads, single operations on memory that is not named. -/
import Derived.Test.YtopjfkcoknenfaaDoorRx8
namespace Go.Rx
open Go RowKit
section
variable {P : Program} {T : Tab} {sp : Spec} {Z : Nat → Prop} {w0 : World} {f : FuncId} {R : Ending → World → Prop}

def subL (m' m : List (Nat × SV)) : Prop := m'.map (fun x => alook m x.1) = m'.map fun x => some x.2
theorem alook_mem : ∀ {m : List (Nat × SV)} {i : Nat} {s : SV}, alook m i = some s → (i, s) ∈ m
  | [], _, _, h => by cases h
  | (u, t) :: r, i, s, h => by
    simp only [alook] at h
    split at h
    · rename_i e; subst e; cases h; simp
    · simp [alook_mem h]
theorem subL.look {m' m : List (Nat × SV)} (h : subL m' m) {i : Nat} {s : SV} (hi : alook m' i = some s) : alook m i = some s := by
  have := List.map_inj_left.1 h (i, s) (alook_mem hi)
  exact this
/-- What is known of some of the slots alone. -/
theorem Sat.keep {ids : List Nat} {sl : Sl} {mem : Mem} {a : Act} {w : World} (hs : Sat Z w0 ids sl mem a w) (m' : List (Nat × SV)) (h : subL m' sl.m) {n : Nat} (hn : sl.n = n) : Sat Z w0 ids { n := n, m := m', gl := [] } mem a w :=
  ⟨⟨hs.slots.defers, hs.slots.sz.trans hn, fun hi => hs.slots.slot (h.look hi), fun h => by cases h⟩, hs.mem⟩
theorem MemOk.nil {ids : List Nat} {w : World} (h : MemOk Z w0 ids [] w) : ids = [] := List.length_eq_zero_iff.1 h.len

/-- The operation at which a run has stopped (one without a guard). -/
def opAt (c : Cfg) : Option (Option Tmp × Op) :=
  match c.todo with
  | .inRegion ops (i :: _) :: _ => match ops[i]? with | some ⟨dst, op, _, _, _, none⟩ => some (dst, op) | _ => none
  | _ => none
theorem Goes.atOp (c : Cfg) {dst : Option Tmp} {op : Op} (hc : opAt c = some (dst, op)) (hb : inB c.sl dst = true) {ids : List Nat} {a : Act} {w : World} (hs : Sat Z w0 ids c.sl c.mem a w) {s : SV} {v : Value} (hd : s.den ids = some v)
    (hr : ∀ o : Oper, o.op = op → Comes1 P a o w v w) (h : ∀ a', Sat Z w0 ids (answered c s c.mem).sl (answered c s c.mem).mem a' w → Goes P f (answered c s c.mem).todo a' w R) : Goes P f c.todo a w R := by
  obtain ⟨todo, sl, mem, lp⟩ := c
  unfold opAt at hc
  simp only at hc hs ⊢
  split at hc
  · rename_i ops i rest k
    split at hc
    · rename_i dst' op' ty pos af ho
      simp only [Option.some.injEq, Prod.mk.injEq] at hc
      obtain ⟨rfl, rfl⟩ := hc
      refine Goes.value (v := v) ho rfl (hr _ rfl) (h _ ⟨?_, hs.mem⟩)
      show Slots ids (putS sl ((ops[i]?).bind (·.dst)) s) (a.put dst' v)
      rw [ho]
      exact hs.slots.put hd hb
    · cases hc
  · cases hc
theorem Sat.evv {ids : List Nat} {sl : Sl} {mem : Mem} {a : Act} {w : World} (hs : Sat Z w0 ids sl mem a w) {x : Operand} {v : Value} (h : Rx.ev sl x = some (.l (.v v))) : a.eval x = v := by
  have := hs.ev h
  exact (Option.some.inj this).symm
/-- An element's place in a slice. -/
theorem Goes.atIndex (c : Cfg) {dst : Option Tmp} {t e : TypeId} {x ix : Operand} (hc : opAt c = some (dst, .indexAddr t x ix)) (hb : inB c.sl dst = true) {A : Addr} {n cap sz : Nat} {k : IntKind} {i : Int} (hx : ev c.sl x = some (.l (.v (.slice (some A) n cap))))
    (hix : ev c.sl ix = some (.l (.v (.int k i)))) (hu : P.underlying t = some (.slice e)) (hsz : ∀ w, (sizeOf e).run P w = .ok sz w) (h0 : 0 ≤ i) (h1 : i < n) {ids : List Nat} {a : Act} {w : World} (hs : Sat Z w0 ids c.sl c.mem a w)
    (h : ∀ a', Sat Z w0 ids (answered c (.l (.v (.pointer (some (A.add (i.toNat * sz)))))) c.mem).sl (answered c (.l (.v (.pointer (some (A.add (i.toNat * sz)))))) c.mem).mem a' w → Goes P f (answered c (.l (.v (.pointer (some (A.add (i.toNat * sz)))))) c.mem).todo a' w R) : Goes P f c.todo a w R := by
  refine Goes.atOp c hc hb hs rfl (fun o ho => .inl ?_) h
  obtain ⟨_, op, _, _, _, _⟩ := o
  simp only at ho
  subst ho
  simp only [execOp, hs.evv hx, hs.evv hix]
  have : (Instr.indexAt t (.slice (some A) n cap) (.int k i)).run P w = .ok (.pointer (some (A.add (i.toNat * sz)))) w := by
    simp [Instr.indexAt, run_underlying hu, asIntOf, h0, h1, hsz, go_sem]
  show (do pure (Next.value (← Instr.indexAt t (.slice (some A) n cap) (.int k i))) : Sem Next).run P w = _
  rw [Sem.run_bind, this]
  rfl
/-- One cell, read. -/
theorem Goes.atLoad (c : Cfg) {dst : Option Tmp} {t : TypeId} {ad : Operand} (hc : opAt c = some (dst, .load t ad)) (hb : inB c.sl dst = true) {A : Addr} {v : Value} (had : ev c.sl ad = some (.l (.v (.pointer (some A)))))
    (hg : aggOf P t = some false) {ids : List Nat} {a : Act} {w : World} (hs : Sat Z w0 ids c.sl c.mem a w) (hcell : w.cell? A = some v)
    (h : ∀ a', Sat Z w0 ids (answered c (.l (.v v)) c.mem).sl (answered c (.l (.v v)) c.mem).mem a' w → Goes P f (answered c (.l (.v v)) c.mem).todo a' w R) : Goes P f c.todo a w R := by
  refine Goes.atOp c hc hb hs rfl (fun o ho => .inl ?_) h
  obtain ⟨_, op, _, _, _, _⟩ := o
  simp only at ho
  subst ho
  simp only [execOp, hs.evv had]
  have : (Instr.loadAt t (.pointer (some A))).run P w = .ok v w := by
    unfold Instr.loadAt
    rw [Sem.run_bind]
    show (loadVar t A).run P w = _
    unfold loadVar
    rw [Sem.run_bind, isAgg_run hg]
    show (load A).run P w = _
    simp [load, Sem.run, hcell]
  show (do pure (Next.value (← Instr.loadAt t (.pointer (some A)))) : Sem Next).run P w = _
  rw [Sem.run_bind, this]
  rfl
/-- A whole path from here to the function's end. -/
theorem Goes.path (hf : T.fits P) (hsp : SpecOk P Z w0 sp) (hm : P.follows .mixedOrders = true) {fn : Func} (hfn : P.funcs[f]? = some fn) (n : Nat) (ds : List Bool) (c : Cfg) {ids : List Nat} {a : Act} {w : World} (hs : Sat Z w0 ids c.sl c.mem a w) {A : Prop} {vs : List Value}
    (hA : A) (he : All (run T sp n ds c).1 = A) (hend : atEnd (run T sp n ds c).2.todo = true) (hres : (exRes T (run T sp n ds c).2.sl (run T sp n ds c).2.mem fn.results.toList).bind SVvals = some vs)
    (hR : ∀ ids' w', ids <+: ids' → MemOk Z w0 ids' (run T sp n ds c).2.mem w' → R (.returned (oneOf vs)) w') : Goes P f c.todo a w R := by
  refine run_ok hf hsp hm n ds c hs (he ▸ hA) fun ids' a' w' hp hs' => ?_
  obtain ⟨rs, hrs, hvs⟩ := Option.bind_eq_some_iff.1 hres
  refine Goes.fin hf hfn _ hend hrs hs' fun vs' hvs' => ?_
  have := SVvals_dens (ids := ids') hvs
  rw [hvs'] at this
  rw [Option.some.inj this]
  exact hR ids' w' hp hs'.mem
/-- From here to where the run stops. -/
theorem Goes.upto (hf : T.fits P) (hsp : SpecOk P Z w0 sp) (hm : P.follows .mixedOrders = true) (n : Nat) (ds : List Bool) (c : Cfg) {ids : List Nat} {a : Act} {w : World} (hs : Sat Z w0 ids c.sl c.mem a w) {A : Prop} (hA : A) (he : All (run T sp n ds c).1 = A)
    (h : ∀ ids' a' w', ids <+: ids' → Sat Z w0 ids' (run T sp n ds c).2.sl (run T sp n ds c).2.mem a' w' → Goes P f (run T sp n ds c).2.todo a' w' R) : Goes P f c.todo a w R :=
  run_ok hf hsp hm n ds c hs (he ▸ hA) h
/-- What is kept at a loop's head, no memory being named. -/
theorem Sat.round {ids : List Nat} {c : Cfg} {a : Act} {w : World} (hs : Sat Z w0 ids c.sl c.mem a w) (m' : List (Nat × SV)) (hm : c.mem = []) (h : subL m' c.sl.m) {n : Nat} (hn : c.sl.n = n) : Sat Z w0 [] { n := n, m := m', gl := [] } [] a w := by
  have hs1 := hs.keep m' h hn
  rw [hm] at hs1
  have := hs1.mem.nil
  subst this
  exact hs1
end
end Go.Rx
