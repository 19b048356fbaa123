/- conn.Way: one push onto the queue, walked. -/
import Derived.Test.YtopjfkcoknenfaaDoorCn5
import Derived.Test.YtopjfkcoknenfaaDoorCn3
namespace Go.Proofs.YtopjfkcoknenfaaDoor.Cn
open Go Go.Rx Go.RowKit Go.Proofs.YtopjfkcoknenfaaDoor
set_option linter.unusedVariables false
set_option maxRecDepth 100000
theorem comp {W w w' : World} {ids ids' : List Nat} {mem mem' : Mem} (h : MemOk (fun _ => False) W ids mem w) (h' : MemOk (fun b => b ∈ ids) w ids' mem' w') : MemOk (fun _ => False) W ids' mem' w' :=
  ⟨h'.nodup, h'.len, fun b hb => .inr (by
    rcases h'.own b hb with h1 | h1
    · rcases h.own b h1 with h2 | h2
      · exact h2.elim
      · exact h2
    · exact Nat.le_trans h.size h1), h'.blk, Nat.le_trans h.size h'.size, fun b hb _ => by
    rw [h'.kept b (Nat.lt_of_lt_of_le hb h.size) (fun hm => by
      rcases h.own b hm with h2 | h2
      · exact h2
      · omega)]
    exact h.kept b hb id, h'.outer.1.trans h.outer.1, h'.outer.2.1.trans h.outer.2.1, h'.outer.2.2.trans h.outer.2.2⟩
def qC (x : Int × Value × List Int) : List Value := [.int .i64 x.1, x.2.1]
def ints (l : List Int) : List Value := l.map (Value.int .i64)
/-- What the queue holds, and the ways in it. -/
structure St (W w : World) (ids : List Nat) (qv : Value) (q : List (Int × Value × List Int)) : Prop where
  rowq : Row w 75 2 qv q.length (q.flatMap qC)
  ownq : ∀ g, qv.ownBlock = some g → g ∉ ids ∧ W.heap.size ≤ g
  ways : ∀ x ∈ q, Row w 3 1 x.2.1 x.2.2.length (ints x.2.2) ∧ ∀ g, x.2.1.ownBlock = some g → g ∉ ids ∧ W.heap.size ≤ g ∧ qv.ownBlock ≠ some g
theorem St.keep {W w w' : World} {ids : List Nat} {qv : Value} {q : List (Int × Value × List Int)} (h : St W w ids qv q) (hk : ∀ g, g < w.heap.size → g ∉ ids → w'.heap[g]? = w.heap[g]?) : St W w' ids qv q :=
  ⟨h.rowq.keep fun g hg hlt => hk g hlt (h.ownq g hg).1, h.ownq, fun x hx => ⟨(h.ways x hx).1.keep fun g hg hlt => hk g hlt ((h.ways x hx).2 g hg).1, (h.ways x hx).2⟩⟩
theorem St.after {W w w' : World} {ids ids' : List Nat} {mem : Mem} {qv : Value} {q : List (Int × Value × List Int)} (h : St W w ids qv q) (hm : MemOk (fun b => b ∈ ids) w ids' mem w') : St W w' ids qv q :=
  h.keep fun g hlt hn => hm.kept g hlt hn
theorem sp3_ok {t : Nat} {W w : World} (hl : Laid t W) {ids : List Nat} {mem : Mem} (hm : MemOk (fun _ => False) W ids mem w) : SpecOk Tryd.prog (fun b => b ∈ ids) w sp3 := by
  have hlt : 0 < W.heap.size := by
    rcases Nat.lt_or_ge 0 W.heap.size with h1 | h1
    · exact h1
    · unfold Laid at hl; rw [Array.getElem?_eq_none h1] at hl; cases hl
  have laid : ∀ {ids' : List Nat} {mem' : Mem} {w' : World}, MemOk (fun b => b ∈ ids) w ids' mem' w' → Laid t w' := fun {ids' mem' w'} h => by
    have := (comp hm h).kept 0 hlt id
    unfold Laid
    rw [this]
    exact hl
  intro f args r hr
  unfold sp3 at hr
  split at hr <;> simp only [Option.some.injEq, reduceCtorEq] at hr <;> subst hr
  · exact ⟨by kernel_rfl, fun _ _ w' h => stepI_calls (laid h) _ _⟩
  · exact ⟨by kernel_rfl, fun _ _ w' h => check_calls _ w'⟩
theorem info3 : ∃ i : TypeInfo, Tryd.prog.info? 3 = some i ∧ i.zero = some (.int .i64 0) ∧ i.size = 1 ∧ i.bytes = 8 := by
  have h : (Tryd.prog.info? 3).map (fun i => (i.zero, i.size, i.bytes)) = some (some (.int .i64 0), 1, 8) := by kernel_rfl
  obtain ⟨i, hi, he⟩ := Option.map_eq_some_iff.1 h
  simp only [Prod.mk.injEq] at he
  exact ⟨i, hi, he.1, he.2.1, he.2.2⟩
theorem info75 : ∃ i : TypeInfo, Tryd.prog.info? 75 = some i ∧ i.zero = some (.agg #[.int .i64 0, .slice none 0 0]) ∧ i.size = 2 ∧ i.bytes = 32 := by
  have h : (Tryd.prog.info? 75).map (fun i => (i.zero, i.size, i.bytes)) = some (some (.agg #[.int .i64 0, .slice none 0 0]), 2, 32) := by kernel_rfl
  obtain ⟨i, hi, he⟩ := Option.map_eq_some_iff.1 h
  simp only [Prod.mk.injEq] at he
  exact ⟨i, hi, he.1, he.2.1, he.2.2⟩
theorem ids_eq {ids ids' : List Nat} (hp : ids <+: ids') (h : ids'.length = ids.length) : ids' = ids := (hp.eq_of_length h.symm).symm
theorem Sat.toW {W w w' : World} {ids ids' : List Nat} {sl : Sl} {mem mem' : Mem} {a' : Act} (h : MemOk (fun _ => False) W ids mem w) (h' : Sat (fun b => b ∈ ids) w ids' sl mem' a' w') : Sat (fun _ => False) W ids' sl mem' a' w' := ⟨h'.slots, comp h h'.mem⟩
theorem sz3 (w : World) : (sizeOf 3).run Tryd.prog w = .ok 1 w := (Tab.fits_look tab2_fits (t := 3) rfl).size w
theorem sz75 (w : World) : (sizeOf 75).run Tryd.prog w = .ok 2 w := (Tab.fits_look tab2_fits (t := 75) rfl).size w
theorem push {t : Nat} {W : World} (hl : Laid t W) {w : World} {ids : List Nat} {a : Act} (b : Int) (A : Option Addr) (n c : Nat) (ev nx s : Int) (sn : Nat → Bool) (B : Option Addr) (m d : Nat) {q : List (Int × Value × List Int)} {way : List Int} {s' : Int}
    (hn : n = q.length) (hm : m = way.length) (hnb : n < 1000) (hmb : m < 1000) (hs : Sat (fun _ => False) W ids (pA b A n c ev nx s sn B m d).sl (pA b A n c ev nx s sn B m d).mem a w) (st : St W w ids (.slice A n c) q)
    (hx : (s', Value.slice B m d, way) ∈ q) {R : Ending → World → Prop}
    (next : ∀ a' w' A2 c2 B2 d2, Sat (fun _ => False) W ids { n := 80, m := innS b (.slice A2 (n + 1) c2) (IntKind.i64.wrap (ev + 1)) } (innM sn s B m d) a' w' → St W w' ids (.slice A2 (n + 1) c2) (q ++ [(nx, Value.slice B2 (m + 1) d2, way ++ [ev])]) →
      Goes Tryd.prog 12 (.inLoop innL :: innK) a' w' R) : Goes Tryd.prog 12 (pA b A n c ev nx s sn B m d).todo a w R := by
  obtain ⟨hrow, hown⟩ := st.ways _ hx
  simp only at hrow hown
  have hmd : m ≤ d := by
    obtain ⟨A', c', e, h, _⟩ := hrow.form
    cases e
    omega
  have hcut := hrow.cut3 (A := B) (n' := m) (c := d) rfl 0 m m (by omega) (by omega) (by omega) hmd
  obtain ⟨B', hB'⟩ : ∃ B', B' = (if m = 0 then B else B.map (·.add (0 * 1))) := ⟨_, rfl⟩
  have hBown : (Value.slice B' m m).ownBlock = (Value.slice B m d).ownBlock := by rw [hB']; exact Row.ownCut
  simp only [Nat.sub_zero, Nat.zero_mul, List.drop_zero, Nat.mul_one] at hcut
  rw [List.take_of_length_le (by simp [ints]; omega)] at hcut
  have hcut' : Row w 3 1 (.slice B' m m) m (ints way) := by rw [hB']; simpa using hcut
  -- the cut
  refine Goes.atUpto3 (pA b A n c ev nx s sn B m d) (pA_op ..) (by kernel_rfl) (sz := 1) Tryd.underlying22 sz3 (A := B) (n := m) (cap := d) (by kernel_rfl) (k := .i64) (k' := .i64) (l := (m : Int)) (m := (m : Int)) (by kernel_rfl) (by kernel_rfl) (by omega) (by omega) (by omega) hs (v := .slice B' m m) (by rw [hB']; simp) fun a1 hs1 => ?_
  refine Goes.upto tab2_fits (sp3_ok hl hs1.mem) wide 300 [] (answered (pA b A n c ev nx s sn B m d) (.l (.v (.slice B' m m))) (innM sn s B m d)) (Rx.Sat.rebase hs1) (A := True) trivial (by kernel_rfl) fun ids2 a2 w2 hp2 hs2 => ?_
  have e2 : (pB b A n c ev nx s sn B m d B').mem = innM sn s B m d := by kernel_rfl
  have hi2 : ids2 = ids := ids_eq hp2 (by rw [hs2.mem.len, hs1.mem.len]; kernel_rfl)
  subst hi2
  have st2 := st.after hs2.mem
  have hcut2 : Row w2 3 1 (.slice B' m m) m (ints way) := hcut'.keep fun g hg hlt => hs2.mem.kept g hlt (hown g (hBown ▸ hg)).1
  have hs2' : Sat (fun _ => False) W ids2 (pB b A n c ev nx s sn B m d B').sl (pB b A n c ev nx s sn B m d B').mem a2 w2 := Sat.toW hs1.mem hs2
  show Goes Tryd.prog 12 (pB b A n c ev nx s sn B m d B').todo a2 w2 R
  -- the event, laid in a row of its own
  obtain ⟨i3, hi3, hz3, hs3, hb3⟩ := info3
  refine Goes.atMade (pB b A n c ev nx s sn B m d B') (pB_op ..) (by kernel_rfl) (i := i3) (z := .int .i64 0) (sz := 1) Tryd.underlying22 hi3 hz3 hs3 rfl (by omega) (by omega) hs2' (v := .int .i64 ev) (hs2'.evv (by kernel_rfl)) #[.int .i64 ev] (by rw [hs3]; kernel_rfl) fun a3 w3 hw3 hs3' => ?_
  have old3 : ∀ g, g < w2.heap.size → w3.heap[g]? = w2.heap[g]? := fun g hlt => by rw [hw3]; exact heap_alloc_old w2 _ hlt
  have st3 := st2.keep (w' := w3) fun g hlt _ => old3 g hlt
  have hcut3 : Row w3 3 1 (.slice B' m m) m (ints way) := hcut2.keep fun g _ hlt => old3 g hlt
  have hnews3 : ∀ j u, [Value.int .i64 ev][j]? = some u → w3.cell? ((⟨w2.heap.size, 0, none⟩ : Addr).add j) = some u := by rw [hw3]; exact cell_one_new w2 _ 3
  -- the longer way
  refine Goes.atAppendNew (pC b A n c ev nx s sn B m d B' w2.heap.size) (pC_op ..) (by kernel_rfl) (i := i3) (z := .int .i64 0) (sz := 1) (bytes := 8) Tryd.underlying22 hi3 hz3 hs3 hb3 rfl (V := B') (n := m) (by kernel_rfl) (A := ⟨w2.heap.size, 0, none⟩) (m := 1) (cap := 1) (by kernel_rfl) hs3' hcut3 (news := [.int .i64 ev]) rfl hnews3 (by omega) (by unfold maxLen; omega) (by omega) fun a4 d2 w4 hrow4 hgr4 hsz4 hs4 => ?_
  have st4 := st3.keep (w' := w4) fun g hlt _ => hgr4.block g hlt (by simp)
  have hlt23 : w2.heap.size ≤ w3.heap.size := by rw [hw3]; simp
  refine Goes.upto tab2_fits (sp3_ok hl hs4.mem) wide 300 [] (answered (pC b A n c ev nx s sn B m d B' w2.heap.size) (.l (.v (.slice (some ⟨w3.heap.size, 0, none⟩) (m + 1) d2))) (pC b A n c ev nx s sn B m d B' w2.heap.size).mem) (Rx.Sat.rebase hs4) (A := True) trivial (by kernel_rfl) fun ids5 a5 w5 hp5 hs5 => ?_
  have hi5 : ids5 = ids2 := ids_eq hp5 (by rw [hs5.mem.len, hs4.mem.len]; kernel_rfl)
  subst hi5
  have st5 := st4.after hs5.mem
  have hnotin : ∀ g, w2.heap.size ≤ g → g ∉ ids5 := fun g hg hmem => by
    have := hs2'.mem.fresh hmem
    omega
  have hrow5 : Row w5 3 1 (.slice (some ⟨w3.heap.size, 0, none⟩) (m + 1) d2) (m + 1) (ints way ++ [.int .i64 ev]) := hrow4.keep fun g hg hlt => hs5.mem.kept g hlt (by
    obtain rfl : w3.heap.size = g := by simpa [Value.ownBlock] using hg
    exact hnotin _ hlt23)
  have hs5' : Sat (fun _ => False) W ids5 (pD b A n c ev nx s sn B m d B' w2.heap.size (some ⟨w3.heap.size, 0, none⟩) d2).sl (pD b A n c ev nx s sn B m d B' w2.heap.size (some ⟨w3.heap.size, 0, none⟩) d2).mem a5 w5 := Sat.toW hs4.mem hs5
  show Goes Tryd.prog 12 (pD b A n c ev nx s sn B m d B' w2.heap.size (some ⟨w3.heap.size, 0, none⟩) d2).todo a5 w5 R
  -- the new place
  obtain ⟨i75, hi75, hz75, hs75, hb75⟩ := info75
  obtain ⟨g3, hg3⟩ : ∃ g3, g3 = w3.heap.size := ⟨_, rfl⟩
  rw [← hg3] at hrow5 hs5' hsz4 ⊢
  have hval : a5.eval (.tmp 77) = .agg #[.int .i64 nx, .slice (some ⟨g3, 0, none⟩) (m + 1) d2] := by
    have := hs5'.ev (x := .tmp 77) (s := .g [.v (.int .i64 nx), .v (.slice (some ⟨g3, 0, none⟩) (m + 1) d2)]) (by kernel_rfl)
    exact (Option.some.inj this).symm
  refine Goes.atMade (pD b A n c ev nx s sn B m d B' w2.heap.size (some ⟨g3, 0, none⟩) d2) (pD_op ..) (by kernel_rfl) (i := i75) (z := .agg #[.int .i64 0, .slice none 0 0]) (sz := 2) Tryd.underlying76 hi75 hz75 hs75 rfl (by omega) (by omega) hs5' hval #[.int .i64 nx, .slice (some ⟨g3, 0, none⟩) (m + 1) d2] (by rw [hs75]; kernel_rfl) fun a6 w6 hw6 hs6 => ?_
  have old6 : ∀ g, g < w5.heap.size → w6.heap[g]? = w5.heap[g]? := fun g hlt => by rw [hw6]; exact heap_alloc_old w5 _ hlt
  have st6 := st5.keep (w' := w6) fun g hlt _ => old6 g hlt
  have hrow6 := hrow5.keep (w' := w6) fun g _ hlt => old6 g hlt
  have hnews6 : ∀ j u, [Value.int .i64 nx, .slice (some ⟨g3, 0, none⟩) (m + 1) d2][j]? = some u → w6.cell? ((⟨w5.heap.size, 0, none⟩ : Addr).add j) = some u := fun j u hj => by
    rw [hw6, add_at]
    simp only [World.cell?, heap_alloc_new]
    match j, hj with
    | 0, hj => simpa using hj
    | 1, hj => simpa using hj
  refine Goes.atAppend (pE b A n c ev nx s sn B m d B' w2.heap.size (some ⟨g3, 0, none⟩) d2 w5.heap.size) (pE_op ..) (by kernel_rfl) (i := i75) (z := .agg #[.int .i64 0, .slice none 0 0]) (sz := 2) (bytes := 32) Tryd.underlying76 hi75 hz75 hs75 hb75 rfl (v := .slice A n c) (by kernel_rfl) (A := ⟨w5.heap.size, 0, none⟩) (m := 1) (cap := 1) (by kernel_rfl) hs6 st6.rowq
    (news := [.int .i64 nx, .slice (some ⟨g3, 0, none⟩) (m + 1) d2]) rfl hnews6 (by intro u hu; simp at hu; rcases hu with rfl | rfl <;> rfl) (by unfold maxLen; omega) (by omega) (fun g hg => ⟨(st6.ownq g hg).1, .inr (st6.ownq g hg).2⟩) fun a7 v7 w7 hrow7 hgr7 hat7 hs7 => ?_
  obtain ⟨A2, c2, rfl, _, _⟩ := hrow7.form
  have h34 : g3 < w4.heap.size := hsz4
  have h45 : w4.heap.size ≤ w5.heap.size := hs5.mem.size
  have h56 : w5.heap.size ≤ w6.heap.size := by rw [hw6]; simp
  have h23 : w2.heap.size ≤ g3 := by rw [hg3]; exact hlt23
  have hW2 : W.heap.size ≤ w2.heap.size := hs2'.mem.size
  have hq2 : ∀ g, (Value.slice A n c).ownBlock = some g → g < w2.heap.size := fun g hg => st2.rowq.lt hg
  have st7 : St W w7 ids5 (.slice A2 (q.length + 1) c2) (q ++ [(nx, .slice (some ⟨g3, 0, none⟩) (m + 1) d2, way ++ [ev])]) := by
    refine ⟨?_, ?_, ?_⟩
    · rw [List.flatMap_append, List.length_append]
      simpa [qC] using hrow7
    · intro g hg
      rcases hat7 with h | h
      · exact st6.ownq g (h ▸ hg)
      · rw [h] at hg
        obtain rfl := Option.some.inj hg
        exact ⟨hnotin _ (by omega), by omega⟩
    · intro x hx'
      rcases List.mem_append.1 hx' with hx' | hx'
      · obtain ⟨k1, k2⟩ := st6.ways x hx'
        refine ⟨k1.keep fun g hg hlt => hgr7.block g hlt (fun e => (k2 g hg).2.2 e.symm), fun g hg => ⟨(k2 g hg).1, (k2 g hg).2.1, fun e => ?_⟩⟩
        rcases hat7 with h | h
        · exact (k2 g hg).2.2 (h ▸ e)
        · rw [h] at e
          have := k1.lt hg
          have := Option.some.inj e
          omega
      · obtain rfl := List.mem_singleton.1 hx'
        refine ⟨?_, fun g hg => ?_⟩
        · have := hrow6.keep (w' := w7) fun g hg hlt => hgr7.block g hlt (fun e => by
            obtain rfl : g3 = g := by simpa [Value.ownBlock] using hg
            have := hq2 _ e.symm
            omega)
          simpa [ints, hm] using this
        · obtain rfl : g3 = g := by simpa [Value.ownBlock] using hg
          refine ⟨hnotin _ (by omega), by omega, fun e => ?_⟩
          rcases hat7 with h | h
          · rw [h] at e
            have := hq2 _ e
            omega
          · rw [h] at e
            have := Option.some.inj e
            omega
  subst hn
  refine Goes.upto tab2_fits (sp3_ok hl hs7.mem) wide 300 [] (answered (pE b A q.length c ev nx s sn B m d B' w2.heap.size (some ⟨g3, 0, none⟩) d2 w5.heap.size) (.l (.v (.slice A2 (q.length + 1) c2))) (pE b A q.length c ev nx s sn B m d B' w2.heap.size (some ⟨g3, 0, none⟩) d2 w5.heap.size).mem) (Rx.Sat.rebase hs7) (A := True) trivial (by kernel_rfl) fun ids8 a8 w8 hp8 hs8 => ?_
  have hi8 : ids8 = ids5 := ids_eq hp8 (by rw [hs8.mem.len, hs7.mem.len]; kernel_rfl)
  subst hi8
  have hs8' : Sat (fun _ => False) W ids8 (pF b A q.length c ev nx s sn B m d B' w2.heap.size (some ⟨g3, 0, none⟩) d2 w5.heap.size A2 c2).sl (pF b A q.length c ev nx s sn B m d B' w2.heap.size (some ⟨g3, 0, none⟩) d2 w5.heap.size A2 c2).mem a8 w8 := Sat.toW hs7.mem hs8
  show Goes Tryd.prog 12 (pF b A q.length c ev nx s sn B m d B' w2.heap.size (some ⟨g3, 0, none⟩) d2 w5.heap.size A2 c2).todo a8 w8 R
  rw [pF_end]
  have hk := hs8'.keep (innS b (.slice A2 (q.length + 1) c2) (IntKind.i64.wrap (ev + 1))) (pF_sub ..) (n := 80) (by kernel_rfl)
  rw [pF_mem] at hk
  exact next a8 w8 A2 c2 (some ⟨g3, 0, none⟩) d2 hk (st7.after hs8.mem)
end Go.Proofs.YtopjfkcoknenfaaDoor.Cn
