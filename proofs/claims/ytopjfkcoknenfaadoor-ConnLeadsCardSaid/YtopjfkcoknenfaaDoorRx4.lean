/- RX, part 4: operations that make memory or write it, and the building of structs and arrays. -/
import Derived.Test.YtopjfkcoknenfaaDoorRx3
namespace Go.Rx
open Go

def SV.cells : SV → List SL
  | .l (.v (.agg arr)) => arr.toList.map .v
  | .l x => [x]
  | .g cs => cs
theorem SV.cells_den {ids : List Nat} {s : SV} {v : Value} (h : s.den ids = some v) : dens ids s.cells = some v.cells.toList := by
  cases s with
  | g cs =>
    simp only [SV.den, Option.map_eq_some_iff] at h
    obtain ⟨l, hl, rfl⟩ := h
    simpa [SV.cells, Value.cells] using hl
  | l x =>
    cases x with
    | p k o =>
      obtain ⟨b, hb, rfl⟩ := den_p h
      simp [SV.cells, dens, SL.den, hb, Value.cells]
    | v x =>
      obtain rfl := den_v h
      cases v <;> simp [SV.cells, dens, SL.den, Value.cells, dens_vs]

def splice (cs : List SL) (off : Nat) (vc : List SL) : List SL := cs.take off ++ vc ++ cs.drop (off + vc.length)
def spliceV (cs : List Value) (off : Nat) (vc : List Value) : List Value := cs.take off ++ vc ++ cs.drop (off + vc.length)
theorem splice_den {ids : List Nat} {cs vc : List SL} {C V : List Value} (h : dens ids cs = some C) (hv : dens ids vc = some V) (off : Nat) : dens ids (splice cs off vc) = some (spliceV C off V) := by
  unfold splice spliceV
  rw [← dens_length hv]
  exact dens_append (dens_append (dens_take _ h) hv) (dens_drop _ h)
theorem spliceV_length {cs vc : List Value} {off : Nat} (h : off + vc.length ≤ cs.length) : (spliceV cs off vc).length = cs.length := by
  simp [spliceV]; omega

/-! ### build -/
def fillS (place : Nat → Option (Nat × Nat)) : List SL → List (Nat × SV) → Option (List SL)
  | cells, [] => some cells
  | cells, (i, v) :: rest =>
    match place i with
    | none => none
    | some (off, size) => if v.cells.length = size ∧ off + size ≤ cells.length then fillS place (splice cells off v.cells) rest else none
theorem foldl_set (off : Nat) : ∀ (l : List Value) (j : Nat) (cs : Array Value), off + j + l.length ≤ cs.size →
    ((l.zipIdx j).foldl (fun cs (x : Value × Nat) => cs.setIfInBounds (off + x.2) x.1) cs).toList = cs.toList.take (off + j) ++ l ++ cs.toList.drop (off + j + l.length)
  | [], j, cs, h => by simp
  | x :: l, j, cs, h => by
    simp only [List.length_cons] at h
    simp only [List.zipIdx_cons, List.foldl_cons]
    rw [foldl_set off l (j + 1) _ (by simp; omega)]
    simp only [Array.toList_setIfInBounds, List.length_cons]
    have hlt : off + j < cs.toList.length := by simp; omega
    rw [List.take_set, List.drop_set, if_pos (by omega)]
    rw [show off + (j + 1) = off + j + 1 from by omega, List.take_succ_eq_append_getElem hlt]
    rw [List.set_append_right _ _ (by simp; omega)]
    have e : off + j - (List.take (off + j) cs.toList).length = 0 := by rw [List.length_take]; omega
    rw [e]
    simp only [List.set_cons_zero, List.append_assoc, List.cons_append]
    rw [show off + j + 1 + l.length = off + j + (l.length + 1) from by omega]
    simp
theorem fill_ok {ids : List Nat} {place : Nat → Option (Nat × Nat)} : ∀ {parts : List (Nat × SV)} {vs : List (Nat × Value)} {cells r : List SL} {C : Array Value},
    parts.length = vs.length → (∀ (j : Nat) (p : Nat × SV), parts[j]? = some p → ∃ v, vs[j]? = some (p.1, v) ∧ p.2.den ids = some v) → dens ids cells = some C.toList → fillS place cells parts = some r →
    ∃ R, Instr.fill place C vs = some R ∧ dens ids r = some R.toList
  | [], vs, cells, r, C, hl, hp, hc, h => by
    cases vs with
    | nil => cases h; exact ⟨C, rfl, hc⟩
    | cons v vs => simp at hl
  | (i, s) :: parts, vs, cells, r, C, hl, hp, hc, h => by
    cases vs with
    | nil => simp at hl
    | cons v vs =>
      obtain ⟨x, hx, hd⟩ := hp 0 (i, s) rfl
      simp only [List.getElem?_cons_zero, Option.some.injEq] at hx
      subst hx
      have hcd := SV.cells_den hd
      have hln := dens_length hcd
      have hlc := dens_length hc
      simp only [fillS] at h
      split at h
      · cases h
      · rename_i off size hpl
        split at h
        · rename_i hs
          have hsz : x.cells.size = size := by simpa using hln.trans hs.1
          have h2 : (x.cells.zipIdx.foldl (fun cs (x : Value × Nat) => cs.setIfInBounds (off + x.2) x.1) C).toList = spliceV C.toList off x.cells.toList := by
            have := foldl_set off x.cells.toList 0 C (by simp at hlc ⊢; omega)
            simp only [Nat.add_zero] at this
            rw [← Array.foldl_toList, Array.toList_zipIdx, this]
            simp [spliceV]
          obtain ⟨R, hR, hdR⟩ := fill_ok (C := x.cells.zipIdx.foldl (fun cs (x : Value × Nat) => cs.setIfInBounds (off + x.2) x.1) C) (by simpa using hl) (fun j p hj => by simpa using hp (j + 1) p (by simpa using hj))
            (by rw [h2]; exact splice_den hc hcd off) h
          refine ⟨R, ?_, hdR⟩
          rw [Instr.fill]
          simp only [hpl]
          rw [if_neg]
          · exact hR
          · simp only [Bool.or_eq_true, ne_eq, decide_eq_true_eq, not_or, Decidable.not_not]
            simp only [Array.length_toList] at hlc
            exact ⟨by simpa using hsz, by omega⟩
        · cases h
def evParts (sl : Sl) : List (Nat × Operand) → Option (List (Nat × SV))
  | [] => some []
  | (i, x) :: r => (ev sl x).bind fun a => (evParts sl r).map fun l => (i, a) :: l
def exBuild (T : Tab) (sl : Sl) (o : Oper) : Option SV :=
  match o.op with
  | .build t parts =>
    match look T t, evParts sl parts.toList with
    | some i, some ps =>
      match i.elem with
      | some (_, sz) => if sz = 0 then none else (fillS (fun j => some (j * sz, sz)) (i.zero.cells.toList.map .v) ps).map .g
      | none => if i.agg && i.flds.all (fun f => f.2 != 0) then (fillS (i.flds[·]?) (i.zero.cells.toList.map .v) ps).map .g else none
    | _, _ => none
  | _ => none
section
variable {P : Program} {T : Tab} {Z : Nat → Prop} {w0 : World} {ids : List Nat} {sl : Sl} {mem : Mem} {a : Act} {w : World}
theorem evParts_ok (hs : Sat Z w0 ids sl mem a w) : ∀ {xs : List (Nat × Operand)} {ps : List (Nat × SV)}, evParts sl xs = some ps →
    ps.length = (xs.map fun x => (x.1, a.eval x.2)).length ∧ ∀ (j : Nat) (p : Nat × SV), ps[j]? = some p → ∃ v, (xs.map fun x => (x.1, a.eval x.2))[j]? = some (p.1, v) ∧ p.2.den ids = some v
  | [], ps, h => by cases h; exact ⟨rfl, fun j p h => by simp at h⟩
  | (i, x) :: r, ps, h => by
    simp only [evParts, Option.bind_eq_some_iff, Option.map_eq_some_iff] at h
    obtain ⟨s, hx, l, hl, rfl⟩ := h
    obtain ⟨h1, h2⟩ := evParts_ok hs hl
    refine ⟨by simpa using h1, fun j p hj => ?_⟩
    cases j with
    | zero => simp at hj; subst hj; exact ⟨a.eval x, rfl, hs.ev hx⟩
    | succ j => simpa using h2 j p (by simpa using hj)
theorem size_run {e : Nat} (hz : P.cellsOf e ≠ 0) : (sizeOf e).run P w = .ok (P.cellsOf e) w := by
  simp only [Program.cellsOf] at hz ⊢
  cases hx : P.info? e with
  | none => rw [hx] at hz; simp at hz
  | some x => simp [sizeOf, typeInfo, program, Sem.run, hx, pure, bind, Sem.bind]
theorem mapM_run {α β : Type} (f : α → Sem β) (g : α → β) : ∀ l : List α, (∀ x ∈ l, (f x).run P w = .ok (g x) w) → (l.mapM f).run P w = .ok (l.map g) w
  | [], _ => rfl
  | x :: l, h => by
    rw [List.mapM_cons, Sem.run_bind, h x (by simp)]
    show Sem.run P (l.mapM f >>= _) w = _
    rw [Sem.run_bind, mapM_run f g l fun y hy => h y (by simp [hy])]
    rfl
theorem exBuild_ok (hf : T.fits P) (hs : Sat Z w0 ids sl mem a w) {o : Oper} {s : SV} (h : exBuild T sl o = some s) : ∃ v, s.den ids = some v ∧ (execOp a.eval o).run P w = .ok (.value v) w := by
  have val : ∀ {v : Value} {m : Sem Value}, m.run P w = .ok v w → (do pure (Next.value (← m)) : Sem Next).run P w = .ok (.value v) w := fun {v m} hm => by
    rw [Sem.run_bind, hm]; rfl
  obtain ⟨dst, op, type, pos, after, guard⟩ := o
  unfold exBuild at h
  simp only at h
  split at h
  · rename_i t parts
    split at h
    · rename_i i ps hl hps
      have fi := Tab.fits_look hf hl
      obtain ⟨p1, p2⟩ := evParts_ok hs hps
      have pe : (parts.map fun x => (x.1, a.eval x.2)).toList = parts.toList.map fun x => (x.1, a.eval x.2) := by simp
      split at h
      · rename_i n sz he
        split at h
        · cases h
        rename_i hz
        simp only [Option.map_eq_some_iff] at h
        obtain ⟨r, hr, rfl⟩ := h
        obtain ⟨R, hR, hd⟩ := fill_ok (C := i.zero.cells) p1 p2 (dens_vs ids _) hr
        refine ⟨.agg R, by simp [SV.den, hd], val ?_⟩
        have h2 := fi.2.2.2.1
        rw [he] at h2
        unfold elemOf' at h2
        split at h2
        · rename_i m e hu
          simp only [Option.some.injEq, Prod.mk.injEq] at h2
          obtain ⟨rfl, rfl⟩ := h2
          have hsz : (sizeOf e).run P w = .ok (P.cellsOf e) w := size_run hz
          show (Instr.build t (parts.map fun x => (x.1, a.eval x.2))).run P w = _
          unfold Instr.build
          rw [Sem.run_bind, fi.zero_run]
          show Sem.run P (underlying t >>= _) w = _
          rw [Sem.run_bind, und w hu]
          show Sem.run P (sizeOf e >>= _) w = _
          rw [Sem.run_bind, hsz]
          show Sem.run P (match Instr.fill (fun j => some (j * P.cellsOf e, P.cellsOf e)) i.zero.cells (parts.map fun x => (x.1, a.eval x.2)).toList with | some cells => pure (Value.agg cells) | x => _) w = _
          rw [pe, hR]
          rfl
        · cases h2
      · rename_i he
        split at h
        · rename_i hall
          simp only [Bool.and_eq_true] at hall
          simp only [Option.map_eq_some_iff] at h
          obtain ⟨r, hr, rfl⟩ := h
          obtain ⟨R, hR, hd⟩ := fill_ok (C := i.zero.cells) p1 p2 (dens_vs ids _) hr
          refine ⟨.agg R, by simp [SV.den, hd], val ?_⟩
          have h2 := fi.2.2.2.1
          have h3 := fi.2.1
          have h4 := fi.2.2.1
          rw [he] at h2
          rw [hall.1] at h3
          unfold elemOf' at h2
          unfold aggOf at h3
          unfold fieldsOf at h4
          cases hu : P.underlying t with
          | none => rw [hu] at h3; cases h3
          | some d =>
            rw [hu] at h2 h3 h4
            cases d <;> simp at h2 h3
            rename_i fs
            simp only at h4
            have hm : (fs.mapM fun f => (do pure (f.offset, ← sizeOf f.type) : Sem (Nat × Nat))).run P w = .ok (fs.map fun f => (f.offset, P.cellsOf f.type)) w := by
              rw [Array.mapM_eq_mapM_toList, show (Array.mk <$> List.mapM (fun f => (do pure (f.offset, ← sizeOf f.type) : Sem (Nat × Nat))) fs.toList : Sem (Array (Nat × Nat))) = (List.mapM (fun f => (do pure (f.offset, ← sizeOf f.type) : Sem (Nat × Nat))) fs.toList >>= fun l => pure (Array.mk l)) from rfl, Sem.run_bind,
                mapM_run _ (fun f => (f.offset, P.cellsOf f.type)) _ fun f hf' => by
                  have hne : P.cellsOf f.type ≠ 0 := by
                    have := List.all_eq_true.1 hall.2 (f.offset, P.cellsOf f.type) (by rw [← h4]; exact List.mem_map.2 ⟨f, hf', rfl⟩)
                    simpa using this
                  rw [Sem.run_bind, size_run hne]; rfl]
              show Result.ok _ w = _
              congr 1
              apply Array.ext'; simp
            show (Instr.build t (parts.map fun x => (x.1, a.eval x.2))).run P w = _
            unfold Instr.build
            rw [Sem.run_bind, fi.zero_run]
            show Sem.run P (underlying t >>= _) w = _
            rw [Sem.run_bind, und w hu]
            show Sem.run P ((fs.mapM fun f => (do pure (f.offset, ← sizeOf f.type) : Sem (Nat × Nat))) >>= _) w = _
            rw [Sem.run_bind, hm]
            show Sem.run P (match Instr.fill ((fs.map fun f => (f.offset, P.cellsOf f.type))[·]?) i.zero.cells (parts.map fun x => (x.1, a.eval x.2)).toList with | some cells => pure (Value.agg cells) | x => _) w = _
            have hpl : (fun j : Nat => (fs.map fun f => (f.offset, P.cellsOf f.type))[j]?) = (fun j : Nat => i.flds[j]?) := by
              funext j; rw [← h4]; simp
            rw [pe, hpl, hR]
            rfl
        · cases h
    · cases h
  · cases h

/-! ### what makes memory, what writes it -/
/-- The world behind a new block. -/
theorem MemOk.push (h : MemOk Z w0 ids mem w) {t : Nat} {cs : List SL} {C : Array Value} (hd : dens ids cs = some C.toList) :
    MemOk Z w0 (ids ++ [w.heap.size]) (mem ++ [(t, cs)]) { w with heap := w.heap.push (.cells C t) } := by
  have fresh : ∀ b ∈ ids, b < w.heap.size := fun b hb => by
    obtain ⟨k, hk, hkb⟩ := List.mem_iff_getElem.1 hb
    have hk' : k < mem.length := h.len ▸ hk
    obtain ⟨b', C', hb', _, hh⟩ := h.blk (k := k) (t := mem[k].1) (cs := mem[k].2) (by simp [hk'])
    have : b' = b := by rw [List.getElem?_eq_getElem hk, hkb] at hb'; exact (Option.some.inj hb').symm
    subst this
    rcases Nat.lt_or_ge b' w.heap.size with hlt | hge
    · exact hlt
    · rw [Array.getElem?_eq_none hge] at hh; cases hh
  have hlen := h.len
  refine ⟨?_, by simp [h.len], ?_, ?_, ?_, ?_, h.outer⟩
  · rw [List.nodup_append]
    exact ⟨h.nodup, by simp, fun a ha b hb hab => by simp at hb; subst hb; subst hab; exact absurd (fresh _ ha) (Nat.lt_irrefl _)⟩
  · intro b hb
    rcases List.mem_append.1 hb with hb | hb
    · exact h.own b hb
    · simp at hb; subst hb; exact .inr h.size
  · intro k u ds hk
    rcases Nat.lt_or_ge k mem.length with hlt | hge
    · rw [List.getElem?_append_left hlt] at hk
      obtain ⟨b, C', hb, hd', hh⟩ := h.blk hk
      have hbm : b ∈ ids := List.mem_of_getElem? hb
      refine ⟨b, C', by rw [List.getElem?_append_left (by omega : k < ids.length)]; exact hb, dens_mono (List.prefix_append _ _) hd', ?_⟩
      rw [Array.getElem?_push, if_neg (Nat.ne_of_lt (fresh b hbm))]
      exact hh
    · rw [List.getElem?_append_right hge] at hk
      have h0 : k - mem.length = 0 := by
        rcases Nat.eq_zero_or_pos (k - mem.length) with h0 | h0
        · exact h0
        · rw [List.getElem?_eq_none (by simp; omega)] at hk; cases hk
      rw [h0] at hk
      simp only [List.getElem?_cons_zero, Option.some.injEq, Prod.mk.injEq] at hk
      obtain ⟨rfl, rfl⟩ := hk
      refine ⟨w.heap.size, C.toList, ?_, dens_mono (List.prefix_append _ _) hd, ?_⟩
      · rw [List.getElem?_append_right (by omega), show k - ids.length = 0 from by omega]; rfl
      · simp
  · show w0.heap.size ≤ (w.heap.push _).size
    rw [Array.size_push]
    exact Nat.le_succ_of_le h.size
  · intro b hb hz
    show (w.heap.push _)[b]? = _
    rw [Array.getElem?_push, if_neg (by have := h.size; omega)]
    exact h.kept b hb hz

def oneCell : Value → Bool
  | .agg _ | .tuple _ => false
  | _ => true
theorem run_storeCells {b t : Nat} : ∀ (vs : List Value) (off i : Nat) (C : Array Value) (w : World), (∀ v ∈ vs, oneCell v = true) → w.heap[b]? = some (Obj.cells C t (0, 0)) → off + i + vs.length ≤ C.size →
    ∃ w', (storeCells ⟨b, off, none⟩ vs i).run P w = .ok () w' ∧ w'.heap[b]? = some (Obj.cells (spliceV C.toList (off + i) vs).toArray t (0, 0)) ∧ w'.heap.size = w.heap.size ∧ (w'.os = w.os ∧ w'.tape = w.tape ∧ w'.output = w.output) ∧ ∀ b', b' ≠ b → w'.heap[b']? = w.heap[b']?
  | [], off, i, C, w, h1, hb, hl => ⟨w, rfl, by simp [spliceV, hb], rfl, ⟨rfl, rfl, rfl⟩, fun _ _ => rfl⟩
  | v :: vs, off, i, C, w, h1, hb, hl => by
    simp only [List.length_cons] at hl
    have hlt : off + i < C.size := by omega
    have ha : (⟨b, off, none⟩ : Addr).add i = ⟨b, off + i, none⟩ := by
      rw [addOff_add]; congr 1; unfold addOff; split <;> omega
    have hc : w.cell? ⟨b, off + i, none⟩ = some C[off + i] := by simp [World.cell?, hb, hlt]
    have hfz : w.frozen? ⟨b, off + i, none⟩ = false := by simp [World.frozen?, hb]
    have hbl : b < w.heap.size := by
      rcases Nat.lt_or_ge b w.heap.size with hlt | hge
      · exact hlt
      · rw [Array.getElem?_eq_none hge] at hb; cases hb
    have hb1 : (w.setCell ⟨b, off + i, none⟩ v).heap[b]? = some (Obj.cells (C.setIfInBounds (off + i) v) t (0, 0)) := by
      simp only [World.setCell]
      rw [Array.getElem?_modify]
      simp [hb]
    obtain ⟨w', hr, hh, hs, hout, ho⟩ := run_storeCells vs off (i + 1) (C.setIfInBounds (off + i) v) (w.setCell ⟨b, off + i, none⟩ v) (fun x hx => h1 x (by simp [hx])) hb1 (by simp; omega)
    have hv := h1 v (by simp)
    refine ⟨w', ?_, ?_, ?_, hout, ?_⟩
    · rw [storeCells, Sem.run_bind]
      have hst : (store ((⟨b, off, none⟩ : Addr).add i) v).run P w = .ok () (w.setCell ⟨b, off + i, none⟩ v) := by
        rw [ha]
        unfold store
        cases v <;> first | (simp [oneCell] at hv; done) | simp [Sem.run, hc, hfz]
      rw [hst]
      exact hr
    · rw [hh]
      congr 3
      have hlt' : off + i < C.toList.length := by simpa using hlt
      simp only [spliceV, Array.toList_setIfInBounds, List.length_cons]
      rw [show off + (i + 1) = off + i + 1 from by omega, List.take_succ_eq_append_getElem (by simpa using hlt')]
      simp only [List.getElem_set_self, List.append_assoc, List.singleton_append]
      rw [List.take_set_of_le (Nat.le_refl _), List.drop_set_of_lt (by omega)]
      rw [show off + i + 1 + vs.length = off + i + (vs.length + 1) from by omega]
    · rw [hs]; simp [World.setCell]
    · intro b' hne
      rw [ho b' hne]
      simp only [World.setCell]
      rw [Array.getElem?_modify, if_neg (fun h => hne h.symm)]

theorem MemOk.store (h : MemOk Z w0 ids mem w) {k t : Nat} {cs vc : List SL} {b off : Nat} {vs : List Value} (hk : mem[k]? = some (t, cs)) (hb : ids[k]? = some b) (hv : dens ids vc = some vs) (h1 : ∀ v ∈ vs, oneCell v = true)
    (hl : off + vc.length ≤ cs.length) :
    ∃ w', (storeCells ⟨b, off, none⟩ vs).run P w = .ok () w' ∧ MemOk Z w0 ids (mem.set k (t, splice cs off vc)) w' := by
  obtain ⟨b', C, hb', hd, hh⟩ := h.blk hk
  obtain rfl := Option.some.inj (hb.symm.trans hb')
  have hlC := dens_length hd
  have hlv := dens_length hv
  obtain ⟨w', hr, hbk, hs, hout, ho⟩ := run_storeCells (P := P) vs off 0 C.toArray w h1 hh (by simp; omega)
  refine ⟨w', hr, h.nodup, by simp [h.len], h.own, ?_, by rw [hs]; exact h.size, ?_, hout.1.trans h.outer.1, hout.2.1.trans h.outer.2.1, hout.2.2.trans h.outer.2.2⟩
  · intro k2 u ds hk2
    by_cases e : k = k2
    · subst e
      have hlt : k < mem.length := by
        rcases Nat.lt_or_ge k mem.length with hlt | hge
        · exact hlt
        · rw [List.getElem?_eq_none hge] at hk; cases hk
      rw [List.getElem?_set_self hlt] at hk2
      simp only [Option.some.injEq, Prod.mk.injEq] at hk2
      obtain ⟨rfl, rfl⟩ := hk2
      exact ⟨b, _, hb, splice_den hd hv off, by simpa using hbk⟩
    · rw [List.getElem?_set_ne e] at hk2
      obtain ⟨b2, C2, hb2, hd2, hh2⟩ := h.blk hk2
      refine ⟨b2, C2, hb2, hd2, ?_⟩
      rw [ho b2 ?_]
      · exact hh2
      · rintro rfl
        have l1 : k < ids.length := by
          rcases Nat.lt_or_ge k ids.length with hlt | hge
          · exact hlt
          · rw [List.getElem?_eq_none hge] at hb; cases hb
        have l2 : k2 < ids.length := by
          rcases Nat.lt_or_ge k2 ids.length with hlt | hge
          · exact hlt
          · rw [List.getElem?_eq_none hge] at hb2; cases hb2
        rw [List.getElem?_eq_getElem l1] at hb
        rw [List.getElem?_eq_getElem l2] at hb2
        have := (List.getElem_inj h.nodup).1 ((Option.some.inj hb).trans (Option.some.inj hb2).symm)
        exact e this
  · intro b2 hb2 hz
    rw [ho b2 ?_]
    · exact h.kept b2 hb2 hz
    · rintro rfl
      rcases h.own b2 (List.mem_of_getElem? hb) with h' | h'
      · exact hz h'
      · omega

def oneS : SL → Bool
  | .p _ _ => true
  | .v x => oneCell x
theorem oneS_ok {ids : List Nat} : ∀ {cs : List SL} {vs : List Value}, dens ids cs = some vs → cs.all oneS = true → ∀ v ∈ vs, oneCell v = true
  | [], vs, h, _ => by cases h; simp
  | x :: r, vs, h, ha => by
    simp only [dens, Option.bind_eq_some_iff, Option.map_eq_some_iff] at h
    obtain ⟨a, hx, l, hl, rfl⟩ := h
    simp only [List.all_cons, Bool.and_eq_true] at ha
    intro v hv
    rcases List.mem_cons.1 hv with rfl | hv
    · cases x with
      | v y => cases hx; exact ha.1
      | p k o =>
        simp only [SL.den, Option.map_eq_some_iff] at hx
        obtain ⟨b, _, rfl⟩ := hx
        rfl
    · exact oneS_ok hl ha.2 v hv

/-- Operations that make or write memory: what the slot then holds, and the memory. -/
def exEff (T : Tab) (sl : Sl) (mem : Mem) (o : Oper) : Option (SV × Mem) :=
  match o.op with
  | .alloc t =>
    match look T t with
    | some i => some (.l (.p mem.length 0), mem ++ [(t, i.zero.cells.toList.map .v)])
    | none => none
  | .box t x =>
    match ev sl x with
    | some s => some (.l (.p mem.length 0), mem ++ [(t, s.cells)])
    | none => none
  | .store t ad x =>
    match look T t, ev sl ad, ev sl x with
    | some i, some (.l (.p k off)), some s =>
      match mem[k]? with
      | some (u, cs) => if s.cells.length = i.size ∧ off + s.cells.length ≤ cs.length ∧ s.cells.all oneS = true then some (.l (.v undef), mem.set k (u, splice cs off s.cells)) else none
      | none => none
    | _, _, _ => none
  | _ => none

/-- What an operation comes to: a value, or nothing ('undef' in its slot). -/
def Comes1 (P : Program) (a : Act) (o : Oper) (w : World) (v : Value) (w' : World) : Prop :=
  (execOp a.eval o).run P w = .ok (.value v) w' ∨ ((execOp a.eval o).run P w = .ok .skip w' ∧ v = undef)

theorem exEff_ok (hf : T.fits P) (hs : Sat Z w0 ids sl mem a w) {o : Oper} {s : SV} {mem' : Mem} (h : exEff T sl mem o = some (s, mem')) :
    ∃ ids' v w', ids <+: ids' ∧ s.den ids' = some v ∧ Comes1 P a o w v w' ∧ MemOk Z w0 ids' mem' w' := by
  have val : ∀ {v : Value} {m : Sem Value} {w' : World}, m.run P w = .ok v w' → (do pure (Next.value (← m)) : Sem Next).run P w = .ok (.value v) w' := fun {v m w'} hm => by
    rw [Sem.run_bind, hm]; rfl
  obtain ⟨dst, op, type, pos, after, guard⟩ := o
  unfold exEff at h
  simp only at h
  split at h
  · rename_i t
    split at h
    · rename_i i hl
      simp only [Option.some.injEq, Prod.mk.injEq] at h
      obtain ⟨rfl, rfl⟩ := h
      have fi := Tab.fits_look hf hl
      refine ⟨ids ++ [w.heap.size], .pointer (some ⟨w.heap.size, 0, none⟩), _, List.prefix_append _ _, ?_, .inl (val ?_), hs.mem.push (dens_vs ids _)⟩
      · simp [SV.den, SL.den, ← hs.mem.len]
      · unfold Instr.alloc
        rw [Sem.run_bind, fi.zero_run]
        rfl
    · cases h
  · rename_i t x
    split at h
    · rename_i sx hx
      simp only [Option.some.injEq, Prod.mk.injEq] at h
      obtain ⟨rfl, rfl⟩ := h
      refine ⟨ids ++ [w.heap.size], .pointer (some ⟨w.heap.size, 0, none⟩), _, List.prefix_append _ _, ?_, .inl (val ?_), hs.mem.push (SV.cells_den (hs.ev hx))⟩
      · simp [SV.den, SL.den, ← hs.mem.len]
      · rfl
    · cases h
  · rename_i t ad x
    split at h
    · rename_i i k off sx hl had hx
      split at h
      · rename_i u cs hk
        split at h
        · rename_i hc
          simp only [Option.some.injEq, Prod.mk.injEq] at h
          obtain ⟨rfl, rfl⟩ := h
          have fi := Tab.fits_look hf hl
          obtain ⟨b, hb, hv⟩ := den_p (hs.ev had)
          have hcd := SV.cells_den (hs.ev hx)
          obtain ⟨w', hr, hm⟩ := hs.mem.store (P := P) hk hb hcd (oneS_ok hcd hc.2.2) hc.2.1
          refine ⟨ids, undef, w', List.prefix_rfl, rfl, .inr ⟨?_, rfl⟩, hm⟩
          simp only [execOp, hv]
          rw [Sem.run_bind]
          have : (Instr.storeAt t (.pointer (some ⟨b, off, none⟩)) (a.eval x)).run P w = .ok () w' := by
            unfold Instr.storeAt
            rw [Sem.run_bind]
            show (storeVar t ⟨b, off, none⟩ (a.eval x)).run P w = _
            unfold storeVar
            rw [Sem.run_bind, fi.size]
            show (if (a.eval x).cells.size ≠ i.size then _ else storeCells ⟨b, off, none⟩ (a.eval x).cells.toList : Sem Unit).run P w = _
            rw [if_neg (by have := dens_length hcd; simp at this; omega)]
            exact hr
          rw [this]
          rfl
        · cases h
      · cases h
    · cases h
  · cases h
end
end Go.Rx
