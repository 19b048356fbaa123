/- RX, part 7: the run's law. -/
import Derived.Test.YtopjfkcoknenfaaDoorRx6
namespace Go.Rx
open Go RowKit

section
variable {P : Program} {T : Tab} {sp : Spec} {Z : Nat → Prop} {w0 : World} {f : FuncId} {R : Ending → World → Prop}

theorem MemOk.fresh {ids : List Nat} {mem : Mem} {w : World} (h : MemOk Z w0 ids mem w) {b : Nat} (hb : b ∈ ids) : b < w.heap.size := by
  obtain ⟨k, hk, hkb⟩ := List.mem_iff_getElem.1 hb
  have hk' : k < mem.length := h.len ▸ hk
  obtain ⟨b', C', hb', _, hh⟩ := h.blk (k := k) (t := mem[k].1) (cs := mem[k].2) (by simp [hk'])
  have : b' = b := by rw [List.getElem?_eq_getElem hk, hkb] at hb'; exact (Option.some.inj hb').symm
  subst this
  rcases Nat.lt_or_ge b' w.heap.size with hlt | hge
  · exact hlt
  · rw [Array.getElem?_eq_none hge] at hh; cases hh
theorem MemOk.below {ids : List Nat} {mem : Mem} {w w' : World} (h : MemOk Z w0 ids mem w) (hb : Below w.heap.size w w') : MemOk Z w0 ids mem w' :=
  ⟨h.nodup, h.len, h.own, fun hk => by
    obtain ⟨b, C, h1, h2, h3⟩ := h.blk hk
    exact ⟨b, C, h1, h2, by rw [hb.block b (h.fresh (List.mem_of_getElem? h1))]; exact h3⟩, Nat.le_trans h.size hb.size, fun b hlt hz => by
    rw [hb.block b (Nat.lt_of_lt_of_le hlt h.size)]; exact h.kept b hlt hz, hb.os.trans h.outer.1, hb.tape.trans h.outer.2.1, hb.output.trans h.outer.2.2⟩
theorem MemOk.drawn {ids : List Nat} {mem : Mem} {w : World} (h : MemOk Z w0 ids mem w) (n : Nat) : MemOk Z w0 ids mem { w with drawn := n } :=
  ⟨h.nodup, h.len, h.own, h.blk, h.size, h.kept, h.outer⟩

theorem SVvals_args {ids : List Nat} {sl : Sl} {mem : Mem} {a : Act} {w : World} (hs : Sat Z w0 ids sl mem a w) : ∀ {xs : List Operand} {ss : List SV} {l : List Value}, evs sl xs = some ss → SVvals ss = some l → xs.map a.eval = l
  | [], ss, l, h, hv => by cases h; cases hv; rfl
  | x :: r, ss, l, h, hv => by
    simp only [evs, Option.bind_eq_some_iff, Option.map_eq_some_iff] at h
    obtain ⟨s, hx, ss', hss, rfl⟩ := h
    simp only [SVvals, Option.bind_eq_some_iff, Option.map_eq_some_iff] at hv
    obtain ⟨v, hv1, l', hl', rfl⟩ := hv
    rw [List.map_cons, SVvals_args hs hss hl']
    congr 1
    exact Option.some.inj ((hs.ev hx).symm.trans (SV.val_den hv1))

theorem exCall_ok (hsp : SpecOk P Z w0 sp) {ids : List Nat} {sl : Sl} {mem : Mem} {a : Act} {w : World} (hs : Sat Z w0 ids sl mem a w) {o : Oper} {s : SV} (h : exCall sp sl o = some s) :
    ∃ g args r, s = .l (.v r) ∧ (∀ w, (execOp a.eval o).run P w = .ok (.enter g args) w) ∧ ∀ w, MemOk Z w0 ids mem w → Calls P g args w (fun e w' => e = .returned r ∧ Below w.heap.size w w') := by
  obtain ⟨dst, op, type, pos, after, guard⟩ := o
  unfold exCall at h
  simp only at h
  split at h
  · rename_i g args ts
    obtain ⟨l, hl, h⟩ := Option.bind_eq_some_iff.1 h
    obtain ⟨ss, hss, hl⟩ := Option.bind_eq_some_iff.1 hl
    simp only [Option.map_eq_some_iff] at h
    obtain ⟨r, hr, rfl⟩ := h
    obtain ⟨he, hc⟩ := hsp g l r hr
    refine ⟨g, args.map a.eval, r, rfl, fun w => call_enter he, fun w hm => ?_⟩
    have : args.map a.eval = l.toArray := by
      apply Array.ext'
      simpa using SVvals_args hs hss hl
    rw [this]
    exact hc ids mem w hm
  · cases h

theorem exOp_ok (hf : T.fits P) (hsp : SpecOk P Z w0 sp) {ids : List Nat} {sl : Sl} {mem mem' : Mem} {a : Act} {w : World} {ops : Array Oper} {i : Nat} {rest : List Nat} {o : Oper} {k : List Item} {s : SV} {obs : List Prop}
    (hs : Sat Z w0 ids sl mem a w) (ho : ops[i]? = some o) (hw : Region.wanted o (yielded ops a.tmps) = true) (hb : inB sl o.dst = true) (h : exOp T sp sl mem o = some (s, obs, mem')) (hob : All obs) {dec : List (Nat × Bool)} (hd : DecOk a dec)
    (next : ∀ ids' a' w', ids <+: ids' → Sat Z w0 ids' (putS sl o.dst s) mem' a' w' → DecOk a' (bput dec o.dst) → Goes P f (.inRegion ops rest :: k) a' w' R) : Goes P f (.inRegion ops (i :: rest) :: k) a w R := by
  unfold exOp at h
  split at h
  · rename_i s' obs' hp
    simp only [Option.some.injEq, Prod.mk.injEq] at h
    obtain ⟨rfl, rfl, rfl⟩ := h
    obtain ⟨v, hv, hr⟩ := exPure_ok hf hs hp hob
    exact Goes.value ho hw (.inl hr) (next ids _ w List.prefix_rfl ⟨hs.slots.put hv hb, hs.mem⟩ (hd.put _ _))
  · split at h
    · rename_i s' hp
      simp only [Option.some.injEq, Prod.mk.injEq] at h
      obtain ⟨rfl, rfl, rfl⟩ := h
      obtain ⟨v, hv, hr⟩ := exBuild_ok hf hs hp
      exact Goes.value ho hw (.inl hr) (next ids _ w List.prefix_rfl ⟨hs.slots.put hv hb, hs.mem⟩ (hd.put _ _))
    · split at h
      · rename_i s' m' hp
        simp only [Option.some.injEq, Prod.mk.injEq] at h
        obtain ⟨rfl, rfl, rfl⟩ := h
        obtain ⟨ids', v, w', hpre, hv, hr, hm⟩ := exEff_ok hf hs hp
        exact Goes.value ho hw hr (next ids' _ w' hpre ⟨(hs.slots.mono hpre).put hv hb, hm⟩ (hd.put _ _))
      · simp only [Option.map_eq_some_iff, Prod.mk.injEq] at h
        obtain ⟨s', hc, rfl, rfl, rfl⟩ := h
        obtain ⟨g, args, r, rfl, hr, hcalls⟩ := exCall_ok hsp hs hc
        refine Goes.call ho hw (hr w) ((hcalls w hs.mem).mono fun e w' ⟨he, hbl⟩ => ⟨r, he, ?_⟩)
        exact next ids _ w' List.prefix_rfl ⟨hs.slots.put rfl hb, hs.mem.below hbl⟩ (hd.put _ _)

theorem exOps_ok (hf : T.fits P) (hsp : SpecOk P Z w0 sp) {ops : Array Oper} {k : List Item} : ∀ (l : List Nat) (ids : List Nat) (sl : Sl) (mem : Mem) (a : Act) (w : World) (dec : List (Nat × Bool)) (ds : List Bool),
    Sat Z w0 ids sl mem a w → DecOk a dec → All (exOps T sp ops l sl mem dec ds).1 →
    (∀ ids' a' w', ids <+: ids' → Sat Z w0 ids' (exOps T sp ops l sl mem dec ds).2.2.1 (exOps T sp ops l sl mem dec ds).2.2.2.1 a' w' → Goes P f (.inRegion ops (exOps T sp ops l sl mem dec ds).2.1 :: k) a' w' R) →
    Goes P f (.inRegion ops l :: k) a w R
  | [], ids, sl, mem, a, w, dec, ds, hs, hd, ho, next => next ids a w List.prefix_rfl hs
  | i :: r, ids, sl, mem, a, w, dec, ds, hs, hd, ho, next => by
    unfold exOps at ho next
    split at next
    · exact next ids a w List.prefix_rfl hs
    · rename_i o hoi
      simp only [hoi] at ho
      split at next
      · exact next ids a w List.prefix_rfl hs
      · rename_i go obs sl1 dec1 ds1 hg
        simp only [hg] at ho
        by_cases hb : inB sl1 o.dst = true
        · simp only [hb, if_true] at ho next
          cases go with
          | true =>
            simp only [if_true] at ho next
            cases he : exOp T sp sl1 mem o with
            | none =>
              simp only [he] at ho next
              obtain ⟨_, h2, _⟩ := guardS_ok hs.slots hd hg ho
              exact next ids a w List.prefix_rfl ⟨h2, hs.mem⟩
            | some q =>
              obtain ⟨s, obs2, mem'⟩ := q
              simp only [he] at ho next
              obtain ⟨ho12, ho3⟩ := All.append ho
              obtain ⟨ho1, ho2⟩ := All.append ho12
              obtain ⟨h1, h2, h3, _⟩ := guardS_ok hs.slots hd hg ho1
              exact exOp_ok hf hsp ⟨h2, hs.mem⟩ hoi h1 hb he ho2 h3 fun ids' a' w' hp hs' hd' =>
                exOps_ok hf hsp r ids' _ _ a' w' _ _ hs' hd' ho3 fun ids'' a'' w'' hp' => next ids'' a'' w'' (hp.trans hp')
          | false =>
            simp only [Bool.false_eq_true, if_false] at ho next
            obtain ⟨ho1, ho3⟩ := All.append ho
            obtain ⟨h1, h2, h3, _⟩ := guardS_ok hs.slots hd hg ho1
            exact Goes.skip hoi h1 (exOps_ok hf hsp r ids _ _ _ w _ _ ⟨h2.put rfl hb, hs.mem⟩ (h3.put _ _) ho3 next)
        · simp only [hb] at ho next
          exact next ids a w List.prefix_rfl hs

theorem exQ_ok (hf : T.fits P) (hsp : SpecOk P Z w0 sp) {ops : Array Oper} {ids : List Nat} {mem : Mem} : ∀ (l : List Oper) (sl : Sl) (a : Act) (dec : List (Nat × Bool)) (ds : List Bool) (obs : List Prop) (sl' : Sl) (ds' : List Bool),
    Slots ids sl a → DecOk a dec → exQ T sp ops mem l sl dec ds = some (obs, sl', ds') → All obs → (∃ w, MemOk Z w0 ids mem w) →
    wpQuiet P ops (fun w' => MemOk Z w0 ids mem w') (fun a' => Slots ids sl' a') l a
  | [], sl, a, dec, ds, obs, sl', ds', hs, hd, h, ho, hw => by
    cases h; exact wpQuiet_nil hs
  | o :: r, sl, a, dec, ds, obs, sl', ds', hs, hd, h, ho, hw => by
    unfold exQ at h
    split at h
    · cases h
    · rename_i go obs0 sl1 dec1 ds1 hg
      split at h
      · rename_i hb
        -- whatever the step yields
        have fin : ∀ (s : SV) (v : Value) (obs2 obs3 : List Prop), s.den ids = some v → All obs0 → (exQ T sp ops mem r (putS sl1 o.dst s) (bput dec1 o.dst) ds1) = some (obs3, sl', ds') → All obs3 →
            wpQuiet P ops (fun w' => MemOk Z w0 ids mem w') (fun a' => Slots ids sl' a') r (a.put o.dst v) := fun s v obs2 obs3 hv h0 hq h3 => by
          obtain ⟨_, h2, h3', _⟩ := guardS_ok hs hd hg h0
          exact exQ_ok hf hsp r _ _ _ _ _ _ _ (h2.put hv hb) (h3'.put _ _) hq h3 hw
        cases go with
        | true =>
          simp only [if_true] at h
          have wanted : All obs0 → Region.wanted o (yielded ops a.tmps) = true := fun h0 => (guardS_ok hs hd hg h0).1
          have sat : All obs0 → ∀ w, MemOk Z w0 ids mem w → Sat Z w0 ids sl1 mem a w := fun h0 w hm => ⟨(guardS_ok hs hd hg h0).2.1, hm⟩
          obtain ⟨wa, hwa⟩ := hw
          split at h
          · rename_i s obs2 hp
            simp only [Option.map_eq_some_iff, Prod.mk.injEq] at h
            obtain ⟨⟨obs3, sl3, ds3⟩, hq, rfl, rfl, rfl⟩ := h
            obtain ⟨h01, h3⟩ := All.append ho
            obtain ⟨h0, h2⟩ := All.append h01
            unfold wpQuiet
            rw [if_pos (wanted h0)]
            obtain ⟨v, hv, _⟩ := exPure_ok hf (sat h0 wa hwa) hp h2
            refine ⟨v, fun w hm => ?_, fin s v [] _ hv h0 hq h3⟩
            obtain ⟨v', hv', hr⟩ := exPure_ok hf (sat h0 w hm) hp h2
            obtain rfl := Option.some.inj (hv.symm.trans hv')
            unfold Oper.quietAt
            rw [hr]
            exact ⟨rfl, rfl⟩
          · split at h
            · rename_i s hp
              simp only [Option.map_eq_some_iff, Prod.mk.injEq] at h
              obtain ⟨⟨obs3, sl3, ds3⟩, hq, rfl, rfl, rfl⟩ := h
              obtain ⟨h0, h3⟩ := All.append ho
              unfold wpQuiet
              rw [if_pos (wanted h0)]
              obtain ⟨v, hv, _⟩ := exBuild_ok hf (sat h0 wa hwa) hp
              refine ⟨v, fun w hm => ?_, fin s v [] _ hv h0 hq h3⟩
              obtain ⟨v', hv', hr⟩ := exBuild_ok hf (sat h0 w hm) hp
              obtain rfl := Option.some.inj (hv.symm.trans hv')
              unfold Oper.quietAt
              rw [hr]
              exact ⟨rfl, rfl⟩
            · split at h
              · rename_i s hp
                simp only [Option.map_eq_some_iff, Prod.mk.injEq] at h
                obtain ⟨⟨obs3, sl3, ds3⟩, hq, rfl, rfl, rfl⟩ := h
                obtain ⟨h0, h3⟩ := All.append ho
                unfold wpQuiet
                rw [if_pos (wanted h0)]
                obtain ⟨g, args, rv, rfl, hr, hc⟩ := exCall_ok hsp (sat h0 wa hwa) hp
                refine ⟨rv, fun w hm => ?_, fin _ rv [] _ rfl h0 hq h3⟩
                unfold Oper.quietAt
                rw [hr w]
                exact ⟨rfl, (hc w hm).mono fun e w' ⟨he, hbl⟩ => ⟨he, hm.below hbl⟩⟩
              · cases h
        | false =>
          simp only [Bool.false_eq_true, if_false, Option.map_eq_some_iff, Prod.mk.injEq] at h
          obtain ⟨⟨obs3, sl3, ds3⟩, hq, rfl, rfl, rfl⟩ := h
          obtain ⟨h0, h3⟩ := All.append ho
          unfold wpQuiet
          rw [if_neg (by rw [(guardS_ok hs hd hg h0).1]; simp)]
          exact fin _ undef [] _ rfl h0 hq h3
      · cases h

theorem wpQuiet_mono {ops : Array Oper} {C : World → Prop} {Q Q' : Act → Prop} (h : ∀ a, Q a → Q' a) : ∀ (l : List Oper) (a : Act), wpQuiet P ops C Q l a → wpQuiet P ops C Q' l a
  | [], a, hq => h a hq
  | o :: r, a, hq => by
    unfold wpQuiet at hq ⊢
    split
    · rename_i hw
      rw [if_pos hw] at hq
      exact Oper.quiet_mono (wpQuiet_mono h r) hq
    · rename_i hw
      rw [if_neg hw] at hq
      exact wpQuiet_mono h r _ hq
theorem stepS_ok (hf : T.fits P) (hsp : SpecOk P Z w0 sp) (hm : P.follows .mixedOrders = true) {c c' : Cfg} {ds ds' : List Bool} {obs : List Prop} {go : Bool} {ids : List Nat} {a : Act} {w : World}
    (h : stepS T sp c ds = some (obs, c', ds', go)) (hs : Sat Z w0 ids c.sl c.mem a w) (ho : All obs)
    (next : ∀ ids' a' w', ids <+: ids' → Sat Z w0 ids' c'.sl c'.mem a' w' → Goes P f c'.todo a' w' R) : Goes P f c.todo a w R := by
  obtain ⟨todo, sl, mem, lp⟩ := c
  unfold stepS at h
  simp only at h hs ⊢
  split at h
  · simp only [Option.some.injEq, Prod.mk.injEq] at h
    obtain ⟨rfl, rfl, rfl, rfl⟩ := h
    exact Goes.one (fun b _ _ cs => step_inBlock) (next ids a w List.prefix_rfl hs)
  · rename_i ops l k
    split at h
    · rename_i obs1 sl1 mem1 ds1 he
      simp only [Option.some.injEq, Prod.mk.injEq] at h
      obtain ⟨rfl, rfl, rfl, rfl⟩ := h
      refine exOps_ok (T := T) (sp := sp) hf hsp l ids sl mem a w [] ds hs (DecOk.nil a) (by rw [he]; exact ho) ?_
      rw [he]
      intro ids' a' w' hp hs'
      exact Goes.one (fun b _ _ cs => step_region_end) (next ids' a' w' hp hs')
    · rename_i obs1 l1 sl1 mem1 ds1 _ he
      simp only [Option.some.injEq, Prod.mk.injEq] at h
      obtain ⟨rfl, rfl, rfl, rfl⟩ := h
      refine exOps_ok (T := T) (sp := sp) hf hsp l ids sl mem a w [] ds hs (DecOk.nil a) (by rw [he]; exact ho) ?_
      rw [he]
      exact next
  · rename_i cd k
    split at h
    · simp only [Option.some.injEq, Prod.mk.injEq] at h
      obtain ⟨rfl, rfl, rfl, rfl⟩ := h
      exact Goes.one (fun b _ _ cs => step_skip) (next ids a w List.prefix_rfl hs)
    · simp only [Option.some.injEq, Prod.mk.injEq] at h
      obtain ⟨rfl, rfl, rfl, rfl⟩ := h
      exact Goes.one (fun b _ _ cs => step_label) (next ids a w List.prefix_rfl hs)
    · simp only [Option.some.injEq, Prod.mk.injEq] at h
      obtain ⟨rfl, rfl, rfl, rfl⟩ := h
      exact Goes.one (fun b _ _ cs => step_seq) (next ids a w List.prefix_rfl hs)
    · simp only [Option.some.injEq, Prod.mk.injEq] at h
      obtain ⟨rfl, rfl, rfl, rfl⟩ := h
      exact Goes.one (fun b _ _ cs => step_block) (next ids a w List.prefix_rfl hs)
    · simp only [Option.map_eq_some_iff, Prod.mk.injEq] at h
      obtain ⟨k', hk', rfl, rfl, rfl, rfl⟩ := h
      exact Goes.one (fun b _ _ cs => step_exit hk') (next ids a w List.prefix_rfl hs)
    · rename_i x t e
      split at h
      · rename_i b d r hx
        simp only [Option.some.injEq, Prod.mk.injEq] at h
        obtain ⟨rfl, rfl, rfl, rfl⟩ := h
        have hb : b = d := ho.1
        have hev := den_v (hs.ev hx)
        rw [hb] at hev
        exact Goes.one (fun b _ _ cs => step_cond hev) (next ids a w List.prefix_rfl hs)
      · cases h
    · simp only [Option.some.injEq, Prod.mk.injEq] at h
      obtain ⟨rfl, rfl, rfl, rfl⟩ := h
      exact Goes.one (fun b _ _ cs => step_region) (next ids a w List.prefix_rfl hs)
    · rename_i id ops
      split at h
      · rename_i hB
        simp only [Option.map_eq_some_iff, Prod.mk.injEq] at h
        obtain ⟨⟨obs1, sl1, ds1⟩, hq, rfl, rfl, rfl, rfl⟩ := h
        have hwp := wp_region_quiet (P := P) (id := id) (Q := fun e a' w' => e = .normal ∧ Slots ids sl1 a' ∧ MemOk Z w0 ids mem w') (C := fun w' => MemOk Z w0 ids mem w') (a := a) (w := w) hm hB (hs.mem.drawn _) (by
          have := exQ_ok (Z := Z) (w0 := w0) hf hsp (ops := ops) (ids := ids) (mem := mem) ops.toList sl a [] ds obs1 sl1 ds1 hs.slots (DecOk.nil a) hq ho ⟨w, hs.mem⟩
          exact wpQuiet_mono (fun a' h w' hw' => ⟨rfl, h, hw'⟩) _ _ this)
        exact Goes.wp hwp fun e a' w' ⟨he, h1, h2⟩ => ⟨he, next ids a' w' List.prefix_rfl ⟨h1, h2⟩⟩
      · cases h
    · split at h
      · simp only [Option.some.injEq, Prod.mk.injEq] at h
        obtain ⟨rfl, rfl, rfl, rfl⟩ := h
        exact Goes.one (fun b _ _ cs => step_loop) (next ids a w List.prefix_rfl hs)
      · cases h
    · cases h
  · split at h
    · simp only [Option.some.injEq, Prod.mk.injEq] at h
      obtain ⟨rfl, rfl, rfl, rfl⟩ := h
      exact Goes.one (fun b _ _ cs => step_inLoop) (next ids a w List.prefix_rfl hs)
    · cases h
  · cases h

/-- THE RUN's LAW. -/
theorem run_ok (hf : T.fits P) (hsp : SpecOk P Z w0 sp) (hm : P.follows .mixedOrders = true) : ∀ (n : Nat) (ds : List Bool) (c : Cfg) {ids : List Nat} {a : Act} {w : World},
    Sat Z w0 ids c.sl c.mem a w → All (run T sp n ds c).1 →
    (∀ ids' a' w', ids <+: ids' → Sat Z w0 ids' (run T sp n ds c).2.sl (run T sp n ds c).2.mem a' w' → Goes P f (run T sp n ds c).2.todo a' w' R) → Goes P f c.todo a w R
  | 0, ds, c, ids, a, w, hs, ho, next => next ids a w List.prefix_rfl hs
  | n + 1, ds, c, ids, a, w, hs, ho, next => by
    unfold run at ho next
    split at next
    · exact next ids a w List.prefix_rfl hs
    · rename_i obs c' ds' he
      simp only [he] at ho
      obtain ⟨h1, h2⟩ := All.append ho
      exact stepS_ok hf hsp hm he hs h1 fun ids' a' w' hp hs' => run_ok hf hsp hm n ds' c' hs' h2 fun ids'' a'' w'' hp' => next ids'' a'' w'' (hp.trans hp')
    · rename_i obs c' ds' he
      simp only [he] at ho
      exact stepS_ok hf hsp hm he hs ho next
end
end Go.Rx
