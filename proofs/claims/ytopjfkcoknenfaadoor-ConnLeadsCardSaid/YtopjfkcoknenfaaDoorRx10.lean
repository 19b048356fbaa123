/- RX, part 10: single operations that make, grow, cut and read slices which are not named. -/
import Derived.Test.YtopjfkcoknenfaaDoorRx9
import Derived.Test.YtopjfkcoknenfaaDoorRw1
import Derived.Great.BuildSlice
import Derived.Laws.Slices
namespace Go.Rx
open Go RowKit
section
variable {P : Program} {T : Tab} {sp : Spec} {Z : Nat → Prop} {w0 : World} {f : FuncId} {R : Ending → World → Prop}

/-- What is known now, from now on. -/
theorem MemOk.rebase {ids : List Nat} {mem : Mem} {w : World} (h : MemOk Z w0 ids mem w) : MemOk (fun b => b ∈ ids) w ids mem w :=
  ⟨h.nodup, h.len, fun _ h => .inl h, h.blk, Nat.le_refl _, fun _ _ _ => rfl, rfl, rfl, rfl⟩
theorem Sat.rebase {ids : List Nat} {sl : Sl} {mem : Mem} {a : Act} {w : World} (h : Sat Z w0 ids sl mem a w) : Sat (fun b => b ∈ ids) w ids sl mem a w := ⟨h.slots, h.mem.rebase⟩
/-- Old memory outside of what is named is kept by what leaves old blocks but one as they were. -/
theorem MemOk.grown {ids : List Nat} {mem : Mem} {w w' : World} {row : Option Nat} (h : MemOk Z w0 ids mem w) (hg : w.grownBy w' row) (hr : ∀ g, row = some g → g ∉ ids ∧ (Z g ∨ w0.heap.size ≤ g)) : MemOk Z w0 ids mem w' :=
  ⟨h.nodup, h.len, h.own, fun hk => by
    obtain ⟨b, C, h1, h2, h3⟩ := h.blk hk
    refine ⟨b, C, h1, h2, ?_⟩
    rw [hg.block b (h.fresh (List.mem_of_getElem? h1)) (fun e => (hr b e.symm).1 (List.mem_of_getElem? h1))]
    exact h3, Nat.le_trans h.size hg.size, fun b hb hz => by
    rw [hg.block b (Nat.lt_of_lt_of_le hb h.size) (fun e => by
      rcases (hr b e.symm).2 with h' | h'
      · exact hz h'
      · omega)]
    exact h.kept b hb hz, hg.os.trans h.outer.1, hg.tape.trans h.outer.2.1, hg.output.trans h.outer.2.2⟩
/-- An operation that changes the world. -/
theorem Goes.atEff (c : Cfg) {dst : Option Tmp} {op : Op} (hc : opAt c = some (dst, op)) (hb : inB c.sl dst = true) {ids : List Nat} {a : Act} {w w' : World} (hs : Sat Z w0 ids c.sl c.mem a w) {s : SV} {v : Value} (hd : s.den ids = some v)
    (hr : ∀ o : Oper, o.op = op → Comes1 P a o w v w') (hm : MemOk Z w0 ids c.mem w') (h : ∀ a', Slots ids (answered c s c.mem).sl a' → Goes P f (answered c s c.mem).todo a' w' R) : Goes P f c.todo a w R := by
  obtain ⟨todo, sl, mem, lp⟩ := c
  unfold opAt at hc
  simp only at hc hs hm ⊢
  split at hc
  · rename_i ops i rest k
    split at hc
    · rename_i dst' op' ty pos af ho
      simp only [Option.some.injEq, Prod.mk.injEq] at hc
      obtain ⟨rfl, rfl⟩ := hc
      refine Goes.value (v := v) ho rfl (hr _ rfl) (h _ ?_)
      show Slots ids (putS sl ((ops[i]?).bind (·.dst)) s) (a.put dst' v)
      rw [ho]
      exact hs.slots.put hd hb
    · cases hc
  · cases hc
theorem comes_v {o : Oper} {a : Act} {w w' : World} {v : Value} {m : Sem Value} (he : (execOp a.eval o).run P w = (do pure (Next.value (← m)) : Sem Next).run P w) (h : m.run P w = .ok v w') : Comes1 P a o w v w' := by
  refine .inl ?_
  rw [he, Sem.run_bind, h]
  rfl
/-- append onto a slice. -/
theorem Goes.atAppend (c : Cfg) {dst : Option Tmp} {t e : TypeId} {x y : Operand} (hc : opAt c = some (dst, .call { callee := .builtin .append, args := #[x, y], argTypes := #[t, t] })) (hb : inB c.sl dst = true) {i : TypeInfo} {z : Value} {sz bytes : Nat}
    (ht : P.underlying t = some (.slice e)) (hi : P.info? e = some i) (hz : i.zero = some z) (hsize : i.size = sz) (hby : i.bytes = bytes) (hzs : z.cells.size = sz)
    {v : Value} (hx : ev c.sl x = some (.l (.v v))) {A : Addr} {m cap : Nat} (hy : ev c.sl y = some (.l (.v (.slice (some A) m cap)))) {ids : List Nat} {a : Act} {w : World} (hs : Sat Z w0 ids c.sl c.mem a w)
    {n : Nat} {L news : List Value} (hrow : Row w e sz v n L) (hl : news.length = m * sz) (hnews : ∀ j u, news[j]? = some u → w.cell? (A.add j) = some u) (h1 : ∀ u ∈ news, u.oneCell' = true) (h63 : n + m ≤ maxLen) (hbytes : (n + m) * bytes ≤ 140737488355328)
    (hown : ∀ g, v.ownBlock = some g → g ∉ ids ∧ (Z g ∨ w0.heap.size ≤ g))
    (h : ∀ a' v' w', Row w' e sz v' (n + m) (L ++ news) → w.grownBy w' v.ownBlock → (v'.ownBlock = v.ownBlock ∨ v'.ownBlock = some w.heap.size) → Sat Z w0 ids (answered c (.l (.v v')) c.mem).sl (answered c (.l (.v v')) c.mem).mem a' w' →
      Goes P f (answered c (.l (.v v')) c.mem).todo a' w' R) : Goes P f c.todo a w R := by
  obtain ⟨v', w', hr, h2, h3, h4⟩ := Row.append (P := P) (ty := 0) ht hi hz hsize hby hzs hrow A cap hl hnews h1 h63 hbytes
  have hm' : MemOk Z w0 ids c.mem w' := hs.mem.grown h3 hown
  have key : ∀ o : Oper, o.op = .call { callee := .builtin .append, args := #[x, y], argTypes := #[t, t] } → Comes1 P a o w v' w' := fun o ho => by
    refine .inl ?_
    unfold execOp
    have hr' : (Builtin.append_ #[t, t] o.type #[v, .slice (some A) m cap]).run P w = .ok v' w' := hr
    simp only [ho, resolve, invoke, builtin, Sem.run_bind, Sem.run_pure, Result.andThen_ok, List.map_toArray, List.map_cons, List.map_nil, hs.evv hx, hs.evv hy, hr']
  have hsame : (answered c (.l (.v v')) c.mem).mem = c.mem := by unfold answered; split <;> rfl
  refine Goes.atEff c hc hb hs (s := .l (.v v')) rfl key hm' fun a' hs' => h a' v' w' h2 h3 h4 ⟨hs', ?_⟩
  rw [hsame]
  exact hm'
/-- A new row of one element. -/
theorem Goes.atMade (c : Cfg) {dst : Option Tmp} {t e : TypeId} {x : Operand} (hc : opAt c = some (dst, .buildSlice t 1 #[(0, x)])) (hb : inB c.sl dst = true) {i : TypeInfo} {z : Value} {sz : Nat}
    (ht : P.underlying t = some (.slice e)) (hi : P.info? e = some i) (hz : i.zero = some z) (hsize : i.size = sz) (hzs : z.cells.size = sz) (h0 : 0 < sz) (h9 : sz ≤ 1000)
    {ids : List Nat} {a : Act} {w : World} (hs : Sat Z w0 ids c.sl c.mem a w) {v : Value} (hx : a.eval x = v) (cells : Array Value) (hfill : Instr.fill (fun k => some (k * i.size, i.size)) ((Array.range (1 * i.size)).map (z.cells[· % z.cells.size]!)) [(0, v)] = some cells)
    (h : ∀ a' w', w' = w.alloc (.cells cells e) → Sat Z w0 ids (answered c (.l (.v (.slice (some ⟨w.heap.size, 0, none⟩) 1 1))) c.mem).sl (answered c (.l (.v (.slice (some ⟨w.heap.size, 0, none⟩) 1 1))) c.mem).mem a' w' →
      Goes P f (answered c (.l (.v (.slice (some ⟨w.heap.size, 0, none⟩) 1 1))) c.mem).todo a' w' R) : Goes P f c.todo a w R := by
  subst hsize
  have hr := run_buildSlice (P := P) w t e 1 #[(0, v)] cells i z ht hi hz (by omega) (by omega) hfill
  have hm' : MemOk Z w0 ids c.mem (w.alloc (.cells cells e)) := hs.mem.below ⟨rfl, rfl, rfl, by simp, fun k hk => heap_alloc_old w _ hk⟩
  have hsame : (answered c (.l (.v (.slice (some ⟨w.heap.size, 0, none⟩) 1 1))) c.mem).mem = c.mem := by unfold answered; split <;> rfl
  refine Goes.atEff c hc hb hs (s := .l (.v (.slice (some ⟨w.heap.size, 0, none⟩) 1 1))) rfl (fun o ho => ?_) hm' fun a' hs' => h a' _ rfl ⟨hs', ?_⟩
  · refine comes_v (m := Instr.buildSlice t 1 #[(0, v)]) ?_ hr
    obtain ⟨_, op, _, _, _, _⟩ := o
    simp only at ho
    subst ho
    simp [execOp, hx]
  · rw [hsame]
    exact hm'
/-- A slice from an element on. -/
theorem Goes.atFrom (c : Cfg) {dst : Option Tmp} {t e : TypeId} {x lo : Operand} (hc : opAt c = some (dst, .slice t x (some lo) none none)) (hb : inB c.sl dst = true) {sz : Nat}
    (ht : P.underlying t = some (.slice e)) (hsz : ∀ w, (sizeOf e).run P w = .ok sz w) {A : Option Addr} {n cap : Nat} (hx : ev c.sl x = some (.l (.v (.slice A n cap)))) {k : IntKind} {l : Int} (hl : ev c.sl lo = some (.l (.v (.int k l)))) (h0 : 0 ≤ l) (h1 : l ≤ n)
    {ids : List Nat} {a : Act} {w : World} (hs : Sat Z w0 ids c.sl c.mem a w) {v : Value} (hv : v = .slice (if cap = l.toNat then A else A.map (·.add (l.toNat * sz))) (n - l.toNat) (cap - l.toNat))
    (h : ∀ a', Sat Z w0 ids (answered c (.l (.v v)) c.mem).sl (answered c (.l (.v v)) c.mem).mem a' w → Goes P f (answered c (.l (.v v)) c.mem).todo a' w R) : Goes P f c.todo a w R := by
  have hel : P.elem t = e := by simp [Program.elem, ht]
  have hu : P.underlying t = some (.slice (P.elem t)) := by rw [hel]; exact ht
  refine Goes.atOp c hc hb hs (s := .l (.v v)) rfl (fun o ho => ?_) h
  refine comes_v (m := Instr.sliceAt t (.slice A n cap) (some (.int k l)) none none) ?_ ?_
  · obtain ⟨_, op, _, _, _, _⟩ := o
    simp only at ho
    subst ho
    simp [execOp, hs.evv hx, hs.evv hl]
  · rw [run_sliceAt_slice w t _ _ _ _ hu, run_slice_l w t A n cap hu k l h0 h1, hel, hsz, hv]
    rfl
/-- A slice up to an element, its capacity cut too. -/
theorem Goes.atUpto3 (c : Cfg) {dst : Option Tmp} {t e : TypeId} {x hi mx : Operand} (hc : opAt c = some (dst, .slice t x none (some hi) (some mx))) (hb : inB c.sl dst = true) {sz : Nat}
    (ht : P.underlying t = some (.slice e)) (hsz : ∀ w, (sizeOf e).run P w = .ok sz w) {A : Option Addr} {n cap : Nat} (hx : ev c.sl x = some (.l (.v (.slice A n cap)))) {k k' : IntKind} {l m : Int} (hl : ev c.sl hi = some (.l (.v (.int k l)))) (hm : ev c.sl mx = some (.l (.v (.int k' m)))) (h0 : 0 ≤ l) (h1 : l ≤ m) (h2 : m ≤ cap)
    {ids : List Nat} {a : Act} {w : World} (hs : Sat Z w0 ids c.sl c.mem a w) {v : Value} (hv : v = .slice (if m.toNat = 0 then A else A.map (·.add (0 * sz))) (l.toNat - 0) (m.toNat - 0))
    (h : ∀ a', Sat Z w0 ids (answered c (.l (.v v)) c.mem).sl (answered c (.l (.v v)) c.mem).mem a' w → Goes P f (answered c (.l (.v v)) c.mem).todo a' w R) : Goes P f c.todo a w R := by
  have hel : P.elem t = e := by simp [Program.elem, ht]
  have hu : P.underlying t = some (.slice (P.elem t)) := by rw [hel]; exact ht
  refine Goes.atOp c hc hb hs (s := .l (.v v)) rfl (fun o ho => ?_) h
  refine comes_v (m := Instr.sliceAt t (.slice A n cap) none (some (.int k l)) (some (.int k' m))) ?_ ?_
  · obtain ⟨_, op, _, _, _, _⟩ := o
    simp only at ho
    subst ho
    simp [execOp, hs.evv hx, hs.evv hl, hs.evv hm]
  · rw [run_sliceAt_slice w t _ _ _ _ hu, run_slice_hm w t A n cap hu k k' l m h0 h1 h2, hel, hsz, hv]
    rfl
/-- The cells of a struct, read at an address. -/
theorem Goes.atLoadG (c : Cfg) {dst : Option Tmp} {t : TypeId} {ad : Operand} (hc : opAt c = some (dst, .load t ad)) (hb : inB c.sl dst = true) {g o : Nat} (had : ev c.sl ad = some (.l (.v (.pointer (some ⟨g, o, none⟩)))))
    (hg : aggOf P t = some true) {sz : Nat} (hsz : ∀ w, (sizeOf t).run P w = .ok sz w) {ids : List Nat} {a : Act} {w : World} (hs : Sat Z w0 ids c.sl c.mem a w) {cur : Array Value} {e : Nat} (hh : w.heap[g]? = some (Obj.cells cur e (0, 0))) (hfit : o + sz ≤ cur.size)
    {cs : List Value} (hcs : (cur.toList.drop o).take sz = cs)
    (h : ∀ a', Sat Z w0 ids (answered c (.g (cs.map .v)) c.mem).sl (answered c (.g (cs.map .v)) c.mem).mem a' w → Goes P f (answered c (.g (cs.map .v)) c.mem).todo a' w R) : Goes P f c.todo a w R := by
  have hd : (SV.g (cs.map .v)).den ids = some (.agg cs.toArray) := by simp [SV.den, dens_vs]
  refine Goes.atOp c hc hb hs hd (fun o' ho => ?_) h
  refine comes_v (m := Instr.loadAt t (.pointer (some ⟨g, o, none⟩))) ?_ ?_
  · obtain ⟨_, op, _, _, _, _⟩ := o'
    simp only at ho
    subst ho
    simp [execOp, hs.evv had]
  · unfold Instr.loadAt
    rw [Sem.run_bind]
    show (loadVar t ⟨g, o, none⟩).run P w = _
    unfold loadVar
    rw [Sem.run_bind, isAgg_run hg]
    show (do pure (.agg (← loadCells ⟨g, o, none⟩ (← sizeOf t))) : Sem Value).run P w = _
    rw [Sem.run_bind, hsz]
    show (do pure (.agg (← loadCells ⟨g, o, none⟩ sz)) : Sem Value).run P w = _
    rw [Sem.run_bind, loadCells, run_loadCellsFrom hh _ _ _ (by simpa using hfit)]
    show Result.ok _ w = _
    congr 2
    apply Array.ext'
    rw [← hcs]
    simp [List.extract_eq_take_drop]
/-- append onto a slice whose capacity is used up. -/
theorem Goes.atAppendNew (c : Cfg) {dst : Option Tmp} {t e : TypeId} {x y : Operand} (hc : opAt c = some (dst, .call { callee := .builtin .append, args := #[x, y], argTypes := #[t, t] })) (hb : inB c.sl dst = true) {i : TypeInfo} {z : Value} {sz bytes : Nat}
    (ht : P.underlying t = some (.slice e)) (hi : P.info? e = some i) (hz : i.zero = some z) (hsize : i.size = sz) (hby : i.bytes = bytes) (hzs : z.cells.size = sz)
    {V : Option Addr} {n : Nat} (hx : ev c.sl x = some (.l (.v (.slice V n n)))) {A : Addr} {m cap : Nat} (hy : ev c.sl y = some (.l (.v (.slice (some A) m cap)))) {ids : List Nat} {a : Act} {w : World} (hs : Sat Z w0 ids c.sl c.mem a w)
    {L news : List Value} (hrow : Row w e sz (.slice V n n) n L) (hl : news.length = m * sz) (hnews : ∀ j u, news[j]? = some u → w.cell? (A.add j) = some u) (h0 : 0 < m) (h63 : n + m ≤ maxLen) (hbytes : (n + m) * bytes ≤ 140737488355328)
    (h : ∀ a' c' w', Row w' e sz (.slice (some ⟨w.heap.size, 0, none⟩) (n + m) c') (n + m) (L ++ news) → w.grownBy w' none → w.heap.size < w'.heap.size →
      Sat Z w0 ids (answered c (.l (.v (.slice (some ⟨w.heap.size, 0, none⟩) (n + m) c'))) c.mem).sl (answered c (.l (.v (.slice (some ⟨w.heap.size, 0, none⟩) (n + m) c'))) c.mem).mem a' w' →
      Goes P f (answered c (.l (.v (.slice (some ⟨w.heap.size, 0, none⟩) (n + m) c'))) c.mem).todo a' w' R) : Goes P f c.todo a w R := by
  obtain ⟨c', w', hr, h2, h3, h4⟩ := Row.appendNew (P := P) (ty := 0) ht hi hz hsize hby hzs hrow A cap hl hnews h0 h63 hbytes
  have hm' : MemOk Z w0 ids c.mem w' := hs.mem.grown h3 (fun g e => by cases e)
  have key : ∀ o : Oper, o.op = .call { callee := .builtin .append, args := #[x, y], argTypes := #[t, t] } → Comes1 P a o w (.slice (some ⟨w.heap.size, 0, none⟩) (n + m) c') w' := fun o ho => by
    refine .inl ?_
    unfold execOp
    have hr' : (Builtin.append_ #[t, t] o.type #[.slice V n n, .slice (some A) m cap]).run P w = .ok (.slice (some ⟨w.heap.size, 0, none⟩) (n + m) c') w' := hr
    simp only [ho, resolve, invoke, builtin, Sem.run_bind, Sem.run_pure, Result.andThen_ok, List.map_toArray, List.map_cons, List.map_nil, hs.evv hx, hs.evv hy, hr']
  have hsame : (answered c (.l (.v (.slice (some ⟨w.heap.size, 0, none⟩) (n + m) c'))) c.mem).mem = c.mem := by unfold answered; split <;> rfl
  refine Goes.atEff c hc hb hs (s := .l (.v (.slice (some ⟨w.heap.size, 0, none⟩) (n + m) c'))) rfl key hm' fun a' hs' => h a' c' w' h2 h3 h4 ⟨hs', ?_⟩
  rw [hsame]
  exact hm'
end
end Go.Rx
