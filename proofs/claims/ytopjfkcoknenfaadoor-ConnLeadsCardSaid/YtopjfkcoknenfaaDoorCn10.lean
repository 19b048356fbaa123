/- conn.Way: the outer loop, and what Way answers. -/
import Derived.Test.YtopjfkcoknenfaaDoorCn9
namespace Go.Proofs.YtopjfkcoknenfaaDoor.Cn
open Go Go.Rx Go.RowKit Go.Proofs.YtopjfkcoknenfaaDoor
set_option linter.unusedVariables false
set_option maxRecDepth 100000
noncomputable def jA (b : Int) (A : Option Addr) (n c : Nat) (s : Int) (sn : Nat → Bool) (B : Option Addr) (m d : Nat) : Cfg := (run tab2 sp3 300 [false] (iA b A n c 10 s sn B m d)).2
noncomputable def jB (b : Int) (A : Option Addr) (n c : Nat) (s : Int) (sn : Nat → Bool) (B : Option Addr) (m d : Nat) (A2 : Option Addr) (n2 c2 : Nat) : Cfg := (run tab2 sp3 300 [] (answered (jA b A n c s sn B m d) (.l (.v (.slice A2 n2 c2))) (jA b A n c s sn B m d).mem)).2
section
variable (A : Option Addr) (n c : Nat) (b s : Int) (sn : Nat → Bool) (B : Option Addr) (m d : Nat) (A2 : Option Addr) (n2 c2 g o : Nat)
theorem jA_op : opAt (jA b A n c s sn B m d) = some (some 31, .slice 76 (.tmp 30) (some (.const (.int .i64 1))) none none) := by kernel_rfl
theorem jA_mem : (jA b A n c s sn B m d).mem = innM sn s B m d := by kernel_rfl
theorem jB_end : (jB b A n c s sn B m d A2 n2 c2).todo = .inLoop wayL :: wayK := by kernel_rfl
theorem jB_sub : subL (wayS b (.slice A2 n2 c2)) (jB b A n c s sn B m d A2 n2 c2).sl.m := by show _ = _; kernel_rfl
theorem jB_mem : (jB b A n c s sn B m d A2 n2 c2).mem = innM sn s B m d := by kernel_rfl
theorem wE_op : opAt (wE b g o n c sn) = some (some 33, .indexAddr 76 (.tmp 32) (.const (.int .i64 0))) := by kernel_rfl
theorem wE_mem : (wE b g o n c sn).mem = [(73, snC sn)] := by kernel_rfl
theorem wF_op : opAt (wF b g o n c sn) = some (some 34, .load 75 (.tmp 33)) := by kernel_rfl
theorem wI_end : (wI b g o n c sn s B m d).todo = .code (.loop innL) :: innK := by kernel_rfl
theorem wI_mem : (wI b g o n c sn s B m d).mem = innM sn s B m d := by kernel_rfl
theorem wI_sub : subL (innS b (.slice (some ⟨g, o, none⟩) n c) 0) (wI b g o n c sn s B m d).sl.m := by show _ = _; kernel_rfl
end
theorem inner_mem (s : Int) (way : List Int) : ∀ (k : Nat) (ev : Int) (q : List (Int × List Int)) (sn : Nat → Bool) (x : Int × List Int), x ∈ (inner s way k ev q sn).1 → x ∈ q ∨ ∃ e : Int, ev ≤ e ∧ e < ev + k ∧ (stepI s e).2.2 = 0 ∧ x = ((stepI s e).1, way ++ [e])
  | 0, ev, q, sn, x, h => .inl h
  | k + 1, ev, q, sn, x, h => by
    rw [inner] at h
    split at h
    · rename_i hc
      rcases inner_mem s way k _ _ _ x h with h | ⟨e, h1, h2, h3, h4⟩
      · rcases List.mem_append.1 h with h | h
        · exact .inl h
        · exact .inr ⟨ev, by omega, by omega, hc.1, List.mem_singleton.1 h⟩
      · exact .inr ⟨e, by omega, by omega, h3, h4⟩
    · rcases inner_mem s way k _ _ _ x h with h | ⟨e, h1, h2, h3, h4⟩
      · exact .inl h
      · exact .inr ⟨e, by omega, by omega, h3, h4⟩
theorem step_rng : ∀ s : Fin 11, ∀ e : Fin 10, (stepI (s.1 : Int) (e.1 : Int)).2.2 = 0 → 0 ≤ (stepI (s.1 : Int) (e.1 : Int)).1 ∧ (stepI (s.1 : Int) (e.1 : Int)).1 < 11 := by decide +kernel
theorem step_in {s e : Int} (h0 : 0 ≤ s) (h1 : s < 11) (h2 : 0 ≤ e) (h3 : e < 10) (h : (stepI s e).2.2 = 0) : 0 ≤ (stepI s e).1 ∧ (stepI s e).1 < 11 := by
  obtain ⟨i, rfl⟩ := Int.eq_ofNat_of_zero_le h0
  obtain ⟨j, rfl⟩ := Int.eq_ofNat_of_zero_le h2
  exact step_rng ⟨i, by omega⟩ ⟨j, by omega⟩ h
/-- The second named block is let go. -/
theorem two_ids {W w : World} {ids : List Nat} {x y : Nat × List SL} (h : MemOk (fun _ => False) W ids [x, y] w) : ∃ i j, ids = [i, j] := by
  have := h.len
  match ids, this with
  | [i, j], _ => exact ⟨i, j, rfl⟩
theorem den_one {i j : Nat} {x : SL} {v : Value} (h : SL.den [i, j] x = some v) (hx : ∀ k o, x = .p k o → k = 0) : SL.den [i] x = some v := by
  cases x with
  | v y => exact h
  | p k o =>
    obtain rfl := hx k o rfl
    exact h
theorem dens_one {i j : Nat} : ∀ {cs : List SL} {C : List Value}, dens [i, j] cs = some C → (∀ x ∈ cs, ∀ k o, x = .p k o → k = 0) → dens [i] cs = some C
  | [], C, h, _ => h
  | x :: r, C, h, hx => by
    simp only [dens, Option.bind_eq_some_iff, Option.map_eq_some_iff] at h ⊢
    obtain ⟨a, ha, l, hl, rfl⟩ := h
    exact ⟨a, den_one ha (hx x (by simp)), l, dens_one hl fun y hy => hx y (by simp [hy]), rfl⟩
theorem drop_two {W w : World} {i j : Nat} {t : Nat} {cs : List SL} {y : Nat × List SL} (h : MemOk (fun _ => False) W [i, j] [(t, cs), y] w) (hx : ∀ x ∈ cs, ∀ k o, x = .p k o → k = 0) : MemOk (fun _ => False) W [i] [(t, cs)] w :=
  ⟨by simp, rfl, fun b hb => h.own b (by simp at hb; simp [hb]), fun {k u ds} hk => by
    match k, hk with
    | 0, hk =>
      cases hk
      obtain ⟨b, C, h1, h2, h3⟩ := h.blk (k := 0) rfl
      cases h1
      exact ⟨i, C, rfl, dens_one h2 hx, h3⟩, h.size, h.kept, h.outer⟩
theorem drop_slots {i j : Nat} {b : Int} {q : Value} {a : Act} (h : Slots [i, j] { n := 80, m := wayS b q } a) : Slots [i] { n := 80, m := wayS b q } a :=
  ⟨h.defers, h.sz, fun {k s} hk => by
    obtain ⟨v, hv, hd⟩ := h.slot hk
    refine ⟨v, hv, ?_⟩
    have hm := alook_mem hk
    simp only [wayS, List.mem_cons, Prod.mk.injEq, List.not_mem_nil, or_false] at hm
    rcases hm with ⟨_, rfl⟩ | ⟨_, rfl⟩ | ⟨_, rfl⟩ | ⟨_, rfl⟩ | ⟨_, rfl⟩ <;> exact hd, fun h => by cases h⟩
theorem St.drop {W w : World} {i j : Nat} {qv : Value} {q : List (Int × Value × List Int)} (h : St W w [i, j] qv q) : St W w [i] qv q :=
  ⟨h.rowq, fun g hg => ⟨fun hm => (h.ownq g hg).1 (by simp at hm; simp [hm]), (h.ownq g hg).2⟩, fun x hx => ⟨(h.ways x hx).1, fun g hg => ⟨fun hm => ((h.ways x hx).2 g hg).1 (by simp at hm; simp [hm]), ((h.ways x hx).2 g hg).2⟩⟩⟩
/-- A new named block: what is in the queue lies elsewhere. -/
theorem St.more {W w w' : World} {i j : Nat} {mem : Mem} {qv : Value} {q : List (Int × Value × List Int)} (h : St W w [i] qv q) (hm : MemOk (fun b => b ∈ [i]) w [i, j] mem w') : St W w' [i, j] qv q := by
  have h' := h.keep (w' := w') fun g hlt hn => hm.kept g hlt hn
  have hj : w.heap.size ≤ j := by
    rcases hm.own j (by simp) with hj | hj
    · have := hm.nodup
      simp at hj
      simp [hj] at this
    · exact hj
  have no : ∀ g, g < w.heap.size → g ∉ [i] → g ∉ [i, j] := fun g hlt hn hmem => by
    simp at hmem hn
    rcases hmem with rfl | rfl
    · exact hn rfl
    · omega
  exact ⟨h'.rowq, fun g hg => ⟨no g (h.rowq.lt hg) (h.ownq g hg).1, (h.ownq g hg).2⟩, fun x hx => ⟨(h'.ways x hx).1, fun g hg => ⟨no g ((h.ways x hx).1.lt hg) ((h.ways x hx).2 g hg).1, ((h.ways x hx).2 g hg).2⟩⟩⟩
theorem sn_flat (sn : Nat → Bool) : ∀ x ∈ snC sn, ∀ k o, x = SL.p k o → k = 0 := by
  intro x hx k o e
  subst e
  simp [snC] at hx
/-- What Way answers. -/
def WayR (W : World) (l : List Int) (e : Ending) (w : World) : Prop := ∃ v, e = .returned (.tuple #[v, .int .i64 0]) ∧ Row w 3 1 v l.length (ints l) ∧ (∃ A c, v = .slice A l.length c) ∧ Below W.heap.size W w
theorem way_loop {t : Nat} {W : World} (hl : Laid t W) (b : Int) {l : List Int} : ∀ (k : Nat) (A : Option Addr) (n c : Nat) (sn : Nat → Bool) (q : List (Int × Value × List Int)) (a : Act) (w : World) (i : Nat),
    bfs b k (bare q) sn = some (l, 0) → n = q.length → (∀ x ∈ q, 0 ≤ x.1 ∧ x.1 < 11 ∧ x.2.2.length + k ≤ 20) → n + 10 * k ≤ 300 →
    Sat (fun _ => False) W [i] { n := 80, m := wayS b (.slice A n c) } [(73, snC sn)] a w → St W w [i] (.slice A n c) q → Goes Tryd.prog 12 (.code wayL :: .inLoop wayL :: wayK) a w (WayR W l)
  | 0, A, n, c, sn, q, a, w, i, hb, hn, hq, hnk, hs, st => by cases hb
  | k + 1, A, n, c, sn, [], a, w, i, hb, hn, hq, hnk, hs, st => by
    simp [bare, bfs] at hb
  | k + 1, A, n, c, sn, (s, v, way) :: r, a, w, i, hb, hn, hq, hnk, hs, st => by
    obtain ⟨hw1, hw2⟩ := st.ways (s, v, way) (by simp)
    simp only at hw1 hw2
    obtain ⟨B, d, rfl, _, _⟩ := hw1.form
    have hs01 := hq (s, Value.slice B way.length d, way) (by simp)
    simp only at hs01
    obtain ⟨g, o, cap, cur, hv, hg, hnc, hcm, hfit, htake⟩ : ∃ g o cap cur, Value.slice A n c = .slice (some ⟨g, o, none⟩) ((s, Value.slice B way.length d, way) :: r).length cap ∧ w.heap[g]? = some (Obj.cells cur 75 (0, 0)) ∧ ((s, Value.slice B way.length d, way) :: r).length ≤ cap ∧ cap ≤ maxLen ∧ o + cap * 2 ≤ cur.size ∧ (cur.toList.drop o).take (((s, Value.slice B way.length d, way) :: r).length * 2) = (((s, Value.slice B way.length d, way) :: r).flatMap qC) := by
      rcases st.rowq.2 with ⟨_, h0⟩ | h
      · simp at h0
      · exact h
    obtain ⟨rfl, rfl, rfl⟩ : A = some ⟨g, o, none⟩ ∧ n = ((s, Value.slice B way.length d, way) :: r).length ∧ c = cap := by cases hv; exact ⟨rfl, rfl, rfl⟩
    obtain ⟨n, hnn⟩ : ∃ n, n = ((s, Value.slice B way.length d, way) :: r).length := ⟨_, rfl⟩
    have hn0 : 0 < n := by rw [hnn]; simp
    rw [← hnn] at hs hnk htake hnc
    refine Goes.upto tab2_fits (sp3_ok hl hs.mem) wide 300 [true] (wD b (some ⟨g, o, none⟩) n c sn) (Rx.Sat.rebase hs) (A := (decide ((n : Int) > 0) = true) ∧ True) ⟨by simpa using hn0, trivial⟩ (by kernel_rfl) fun ids1 a1 w1 hp1 hs1 => ?_
    obtain rfl : ids1 = [i] := ids_eq hp1 (by rw [hs1.mem.len]; kernel_rfl)
    have st1 := st.after hs1.mem
    have hg1 : w1.heap[g]? = some (Obj.cells cur 75 (0, 0)) := by
      rw [hs1.mem.kept g (st.rowq.lt rfl) (st.ownq g rfl).1]; exact hg
    have hs1' : Sat (fun _ => False) W [i] (wE b g o n c sn).sl (wE b g o n c sn).mem a1 w1 := Sat.toW hs.mem hs1
    show Goes Tryd.prog 12 (wE b g o n c sn).todo a1 w1 _
    refine Goes.atIndex (wE b g o n c sn) (wE_op ..) (by kernel_rfl) (A := ⟨g, o, none⟩) (n := n) (cap := c) (sz := 2) (k := .i64) (i := 0) (by kernel_rfl) (by kernel_rfl) Tryd.underlying76 sz75 (by omega) (by omega) hs1' fun a2 hs2 => ?_
    have hs2' : Sat (fun _ => False) W [i] (wF b g o n c sn).sl (wF b g o n c sn).mem a2 w1 := hs2
    show Goes Tryd.prog 12 (wF b g o n c sn).todo a2 w1 _
    have hcs : (cur.toList.drop o).take 2 = [.int .i64 s, .slice B way.length d] := by
      have h2 : ((cur.toList.drop o).take (n * 2)).take 2 = (cur.toList.drop o).take 2 := by rw [List.take_take]; congr 1; omega
      rw [← h2, htake]
      simp [qC]
    refine Goes.atLoadG (wF b g o n c sn) (wF_op ..) (by kernel_rfl) (g := g) (o := o) (by kernel_rfl) (by kernel_rfl) sz75 hs2' hg1 (by omega) hcs fun a3 hs3 => ?_
    have hs3' : Sat (fun _ => False) W [i] (wG b g o n c sn s B way.length d).sl (wG b g o n c sn s B way.length d).mem a3 w1 := hs3
    show Goes Tryd.prog 12 (wG b g o n c sn s B way.length d).todo a3 w1 _
    by_cases hsb : s = b
    · -- the end
      subst hsb
      have hbl : l = way := by
        simp [bare, bfs] at hb
        exact hb.symm
      subst hbl
      refine Goes.path tab2_fits (sp3_ok hl hs3'.mem) wide Tryd.func12 300 [true] (wG s g o n c sn s B l.length d) (Rx.Sat.rebase hs3') (A := ((s == s) = true) ∧ True) (vs := [.slice B l.length d, .int .i64 0]) ⟨by simp, trivial⟩ (by kernel_rfl) (by kernel_rfl) (by kernel_rfl) fun ids4 w4 hp4 hm4 => ?_
      have h1 := (st1.ways (s, .slice B l.length d, l) (by simp)).1
      simp only at h1
      have h2 := (st1.ways (s, .slice B l.length d, l) (by simp)).2
      refine ⟨_, rfl, h1.keep fun g hg hlt => hm4.kept g hlt (h2 g hg).1, ⟨_, _, rfl⟩, ?_⟩
      exact (comp hs3'.mem hm4).toBelow
    · have hne : (s == b) = false := by simpa using hsb
      have hb' : bfs b k (inner s way 10 0 ((s, way) :: bare r) sn).1.tail (inner s way 10 0 ((s, way) :: bare r) sn).2 = some (l, 0) := by
        have : bare ((s, Value.slice B way.length d, way) :: r) = (s, way) :: bare r := rfl
        rw [this, bfs, if_neg hsb] at hb
        exact hb
      refine Goes.upto tab2_fits (sp3_ok hl hs3'.mem) wide 300 [false] (wG b g o n c sn s B way.length d) (Rx.Sat.rebase hs3') (A := ((s == b) = false) ∧ True) ⟨hne, trivial⟩ (by kernel_rfl) fun ids4 a4 w4 hp4 hs4 => ?_
      have hs4' : Sat (fun _ => False) W ids4 (wI b g o n c sn s B way.length d).sl (wI b g o n c sn s B way.length d).mem a4 w4 := Sat.toW hs3'.mem hs4
      have hm4 := hs4.mem
      change MemOk _ w1 ids4 (wI b g o n c sn s B way.length d).mem w4 at hm4
      show Goes Tryd.prog 12 (wI b g o n c sn s B way.length d).todo a4 w4 _
      have hk4 := hs4'.keep _ (wI_sub ..) (n := 80) (by kernel_rfl)
      rw [wI_mem] at hk4 hm4
      rw [wI_end]
      obtain ⟨i', j, rfl⟩ := two_ids hk4.mem
      obtain rfl : i' = i := by
        have := hp4
        simp at this
        exact this.symm
      have st4 := St.more (j := j) st1 hm4
      refine Goes.one (fun _ _ _ _ => step_loop) ?_
      rw [hnn] at hk4
      refine inn_loop hl b s hs01.1 hs01.2.1 B way.length d way rfl (by omega) (s' := s) 10 0 (some ⟨g, o, none⟩) _ c sn _ a4 w4 (by omega) rfl rfl (by omega) hk4 st4 (by simp) ?_
      intro a5 w5 A5 n5 c5 q5 sn5 e1 e2 e3 e4 e5 e6 hs5 st5
      obtain ⟨r5, rfl⟩ := e6
      -- the round's end
      refine Goes.upto tab2_fits (sp3_ok hl hs5.mem) wide 300 [false] (iA b A5 n5 c5 10 s sn5 B way.length d) (Rx.Sat.rebase hs5) (A := (false = false) ∧ True) ⟨rfl, trivial⟩ (by kernel_rfl) fun ids6 a6 w6 hp6 hs6 => ?_
      obtain rfl : ids6 = [i', j] := ids_eq hp6 (by rw [hs6.mem.len]; kernel_rfl)
      have st6 := st5.after hs6.mem
      have hs6' : Sat (fun _ => False) W [i', j] (jA b A5 n5 c5 s sn5 B way.length d).sl (jA b A5 n5 c5 s sn5 B way.length d).mem a6 w6 := Sat.toW hs5.mem hs6
      show Goes Tryd.prog 12 (jA b A5 n5 c5 s sn5 B way.length d).todo a6 w6 _
      have hn5 : 1 ≤ n5 := by rw [e1]; simp
      obtain ⟨A6, hA6⟩ : ∃ A6, A6 = (if c5 = 1 then A5 else A5.map (·.add (1 * 2))) := ⟨_, rfl⟩
      refine Goes.atFrom (jA b A5 n5 c5 s sn5 B way.length d) (jA_op ..) (by kernel_rfl) (sz := 2) Tryd.underlying76 sz75 (A := A5) (n := n5) (cap := c5) (by kernel_rfl) (k := .i64) (l := 1) (by kernel_rfl) (by omega) (by omega) hs6' (v := .slice A6 (n5 - 1) (c5 - 1)) (by rw [hA6]; simp) fun a7 hs7 => ?_
      rw [jA_mem] at hs7
      refine Goes.upto tab2_fits (sp3_ok hl hs7.mem) wide 300 [] (answered (jA b A5 n5 c5 s sn5 B way.length d) (.l (.v (.slice A6 (n5 - 1) (c5 - 1)))) (innM sn5 s B way.length d)) (Rx.Sat.rebase hs7) (A := True) trivial (by kernel_rfl) fun ids8 a8 w8 hp8 hs8 => ?_
      have hs8' : Sat (fun _ => False) W ids8 (jB b A5 n5 c5 s sn5 B way.length d A6 (n5 - 1) (c5 - 1)).sl (jB b A5 n5 c5 s sn5 B way.length d A6 (n5 - 1) (c5 - 1)).mem a8 w8 := by
        have := Sat.toW hs7.mem hs8
        rw [← jA_mem A5 n5 c5 b s sn5 B way.length d] at this
        exact this
      have hk8 := hs8'.keep _ (jB_sub ..) (n := 80) (by kernel_rfl)
      rw [jB_mem] at hk8
      obtain rfl : ids8 = [i', j] := ids_eq hp8 (by rw [hk8.mem.len]; rfl)
      -- the queue's tail
      have hcut := st6.rowq.cut (P := Tryd.prog) Tryd.underlying76 sz75 (A := A5) (n' := n5) (c := c5) rfl 1 n5 hn5 (by omega)
      rw [← hA6] at hcut
      have hown : (Value.slice A6 (n5 - 1) (c5 - 1)).ownBlock = (Value.slice A5 n5 c5).ownBlock := by rw [hA6]; exact Row.ownCut
      have st7 : St W w6 [i', j] (.slice A6 (n5 - 1) (c5 - 1)) (r ++ r5) := by
        refine ⟨?_, fun x hx => st6.ownq x (hown ▸ hx), fun x hx => ?_⟩
        · have e7 : n5 - 1 = (r ++ r5).length := by rw [e1]; simp
          rw [← e7]
          have e8 : ((((s, Value.slice B way.length d, way) :: r ++ r5).flatMap qC).drop (1 * 2)).take ((n5 - 1) * 2) = (r ++ r5).flatMap qC := by
            have e9 : ((s, Value.slice B way.length d, way) :: r ++ r5).flatMap qC = [.int .i64 s, .slice B way.length d] ++ (r ++ r5).flatMap qC := by simp [qC]
            rw [e9]
            have e10 : ((r ++ r5).flatMap qC).length = (n5 - 1) * 2 := by
              have := st6.rowq.1
              rw [e9, ← e1] at this
              simp only [List.length_append, List.length_cons, List.length_nil] at this ⊢
              omega
            rw [show (1 * 2 : Nat) = ([Value.int .i64 s, .slice B way.length d] : List Value).length from rfl, List.drop_left, List.take_of_length_le (by omega)]
          rw [e8] at hcut
          exact hcut
        · obtain ⟨k1, k2⟩ := st6.ways x (by simp at hx ⊢; rcases hx with h | h <;> simp [h])
          exact ⟨k1, fun g hg => ⟨(k2 g hg).1, (k2 g hg).2.1, fun e => (k2 g hg).2.2 (hown ▸ e)⟩⟩
      have st8 := st7.after hs8.mem
      show Goes Tryd.prog 12 (jB b A5 n5 c5 s sn5 B way.length d A6 (n5 - 1) (c5 - 1)).todo a8 w8 _
      rw [jB_end]
      refine Goes.one (fun _ _ _ _ => step_inLoop) ?_
      have hbare : bare (r ++ r5) = (inner s way 10 0 ((s, way) :: bare r) sn).1.tail := by
        rw [show (s, way) :: bare r = bare ((s, Value.slice B way.length d, way) :: r) from rfl, ← e3]
        rfl
      have hle5 : n5 ≤ n + 10 := by rw [hnn]; exact e2
      refine way_loop hl b k A6 (n5 - 1) (c5 - 1) sn5 (r ++ r5) a8 w8 i' ?_ (by rw [e1]; simp) ?_ (by omega) ⟨drop_slots hk8.slots, drop_two hk8.mem (sn_flat sn5)⟩ st8.drop
      · rw [hbare, e4]
        exact hb'
      · intro x hx
        have hxb : (x.1, x.2.2) ∈ bare ((s, Value.slice B way.length d, way) :: r ++ r5) := List.mem_map.2 ⟨x, by simp at hx ⊢; rcases hx with h | h <;> simp [h], rfl⟩
        rw [e3] at hxb
        rcases inner_mem s way 10 0 _ _ _ hxb with h | ⟨e, h1, h2, h3, h4⟩
        · obtain ⟨y, hy, hye⟩ := List.mem_map.1 h
          have := hq y hy
          simp only [Prod.mk.injEq] at hye
          rw [← hye.1, ← hye.2]
          exact ⟨this.1, this.2.1, by omega⟩
        · simp only [Prod.mk.injEq] at h4
          have := step_in hs01.1 hs01.2.1 h1 (by omega) h3
          rw [h4.1, h4.2]
          refine ⟨this.1, this.2, ?_⟩
          simp only [List.length_append, List.length_cons, List.length_nil]
          omega
theorem way_start {t : Nat} {W : World} (hl : Laid t W) (x b : Int) (h0 : 0 ≤ x) (h1 : x < 11) (hop : opAt (wA x b) = some (some 26, .buildSlice 76 1 #[(0, .tmp 25)])) (hin : inB (wA x b).sl (some 26) = true)
    (hev : ev (wA x b).sl (.tmp 25) = some (.g [.v (.int .i64 x), .v (.slice none 0 0)])) (hob : ∀ g, All (run tab2 sp3 300 [] (answered (wA x b) (.l (.v (.slice (some ⟨g, 0, none⟩) 1 1))) (wA x b).mem)).1 = True) (hn : ∀ g, (wC x b g).sl.n = 80)
    (hmem : ∀ g, (wC x b g).mem = [(73, snC (fun i => decide (i = x.toNat)))]) (htodo : ∀ g, (wC x b g).todo = .code (.loop wayL) :: wayK) (hsub : ∀ g, subL (wayS b (.slice (some ⟨g, 0, none⟩) 1 1)) (wC x b g).sl.m)
    {l : List Int} (h : bfs b 12 [(x, [])] (fun i => decide (i = x.toNat)) = some (l, 0)) {i : Nat} {a1 : Act} {w1 : World} (hs1 : Sat (fun _ => False) W [i] (wA x b).sl (wA x b).mem a1 w1) : Goes Tryd.prog 12 (wA x b).todo a1 w1 (WayR W l) := by
  obtain ⟨i75, hi75, hz75, hs75, hb75⟩ := info75
  have hval : a1.eval (.tmp 25) = .agg #[.int .i64 x, .slice none 0 0] := by
    have := hs1.ev hev
    exact (Option.some.inj this).symm
  refine Goes.atMade (wA x b) hop hin (i := i75) (z := .agg #[.int .i64 0, .slice none 0 0]) (sz := 2) Tryd.underlying76 hi75 hz75 hs75 rfl (by omega) (by omega) hs1 hval #[.int .i64 x, .slice none 0 0] (by rw [hs75]; kernel_rfl) fun a2 w2 hw2 hs2 => ?_
  refine Goes.upto tab2_fits (sp3_ok hl hs2.mem) wide 300 [] (answered (wA x b) (.l (.v (.slice (some ⟨w1.heap.size, 0, none⟩) 1 1))) (wA x b).mem) (Rx.Sat.rebase hs2) (A := True) trivial (hob _) fun ids3 a3 w3 hp3 hs3 => ?_
  have hs3' : Sat (fun _ => False) W ids3 (wC x b w1.heap.size).sl (wC x b w1.heap.size).mem a3 w3 := Sat.toW hs2.mem hs3
  show Goes Tryd.prog 12 (wC x b w1.heap.size).todo a3 w3 _
  have hk := hs3'.keep _ (hsub _) (hn _)
  rw [hmem] at hk
  obtain rfl : ids3 = [i] := ids_eq hp3 (by rw [hk.mem.len]; rfl)
  rw [htodo]
  refine Goes.one (fun _ _ _ _ => step_loop) ?_
  have hin1 : i < w1.heap.size := hs1.mem.fresh (by simp)
  have hW1 : W.heap.size ≤ w1.heap.size := hs1.mem.size
  have hne : w1.heap.size ∉ [i] := by simp; omega
  have hrow : Row w2 75 2 (.slice (some ⟨w1.heap.size, 0, none⟩) 1 1) 1 [.int .i64 x, .slice none 0 0] :=
    ⟨rfl, .inr ⟨w1.heap.size, 0, 1, #[.int .i64 x, .slice none 0 0], rfl, by rw [hw2]; exact heap_alloc_new w1 _, by omega, by simp [maxLen], by simp, by simp⟩⟩
  refine way_loop hl b 12 _ 1 1 _ [(x, .slice none 0 0, [])] a3 w3 i h rfl (by intro y hy; simp at hy; subst hy; exact ⟨h0, h1, by simp⟩) (by omega) hk ?_
  refine ⟨?_, ?_, ?_⟩
  · exact hrow.keep fun g hg hlt => by
      obtain rfl : w1.heap.size = g := by simpa [Value.ownBlock] using hg
      exact hs3.mem.kept _ hlt hne
  · intro g hg
    obtain rfl : w1.heap.size = g := by simpa [Value.ownBlock] using hg
    exact ⟨hne, hW1⟩
  · intro y hy
    obtain rfl := List.mem_singleton.1 hy
    exact ⟨Row.nil w3 3 1, fun g hg => by simp [Value.ownBlock] at hg⟩
theorem wA_0_op (b : Int) : opAt (wA 0 b) = some (some 26, .buildSlice 76 1 #[(0, .tmp 25)]) := by kernel_rfl
theorem wC_0_mem (b : Int) (g : Nat) : (wC 0 b g).mem = [(73, snC (fun i => decide (i = 0)))] := by kernel_rfl
theorem wC_0_todo (b : Int) (g : Nat) : (wC 0 b g).todo = .code (.loop wayL) :: wayK := by kernel_rfl
theorem wC_0_sub (b : Int) (g : Nat) : subL (wayS b (.slice (some ⟨g, 0, none⟩) 1 1)) (wC 0 b g).sl.m := by show _ = _; kernel_rfl
theorem way_0 {t : Nat} {W : World} (hl : Laid t W) (b : Int) (hb : checkI b = 0) {l : List Int} (h : bfs b 12 [(0, [])] (fun i => decide (i = 0)) = some (l, 0)) : Calls Tryd.prog 12 #[.int .i64 0, .int .i64 b] W (WayR W l) := by
  refine Calls.rx Tryd.func12 rfl (args := [vInt .i64 0, vInt .i64 b]) (vals := [.int .i64 0, .int .i64 b]) [] (fun h => by cases h) rfl (Nat.le_of_ble_eq_true (by kernel_rfl)) (MemOk.empty W) fun a hs => ?_
  refine Goes.upto tab2_fits (sp3_ok hl hs.mem) wide 300 [false, false] { todo := [.code body12], sl := { n := Tryd.f12.ntmps, m := argSl 0 [vInt .i64 0, vInt .i64 b] }, mem := [] } (Rx.Sat.rebase hs) (A := ((checkI 0 != 0) = false) ∧ ((bif false then true else checkI b != 0) = false) ∧ ((0 : Int) ≤ 0) ∧ ((0 : Int) < 11) ∧ True) ⟨by decide, by simp [hb], by decide, by decide, trivial⟩ (by kernel_rfl) fun ids1 a1 w1 hp1 hs1 => ?_
  have hs1' : Sat (fun _ => False) W ids1 (wA 0 b).sl (wA 0 b).mem a1 w1 := Sat.toW hs.mem hs1
  have hlen : ids1.length = 1 := by rw [hs1'.mem.len]; kernel_rfl
  obtain ⟨i, rfl⟩ : ∃ i, ids1 = [i] := by
    match ids1, hlen with
    | [i], _ => exact ⟨i, rfl⟩
  exact way_start hl 0 b (by decide) (by decide) (wA_0_op b) (by kernel_rfl) (by kernel_rfl) (fun g => by kernel_rfl) (fun g => by kernel_rfl) (wC_0_mem b) (wC_0_todo b) (wC_0_sub b) h hs1'
theorem wA_1_op (b : Int) : opAt (wA 1 b) = some (some 26, .buildSlice 76 1 #[(0, .tmp 25)]) := by kernel_rfl
theorem wC_1_mem (b : Int) (g : Nat) : (wC 1 b g).mem = [(73, snC (fun i => decide (i = 1)))] := by kernel_rfl
theorem wC_1_todo (b : Int) (g : Nat) : (wC 1 b g).todo = .code (.loop wayL) :: wayK := by kernel_rfl
theorem wC_1_sub (b : Int) (g : Nat) : subL (wayS b (.slice (some ⟨g, 0, none⟩) 1 1)) (wC 1 b g).sl.m := by show _ = _; kernel_rfl
theorem way_1 {t : Nat} {W : World} (hl : Laid t W) (b : Int) (hb : checkI b = 0) {l : List Int} (h : bfs b 12 [(1, [])] (fun i => decide (i = 1)) = some (l, 0)) : Calls Tryd.prog 12 #[.int .i64 1, .int .i64 b] W (WayR W l) := by
  refine Calls.rx Tryd.func12 rfl (args := [vInt .i64 1, vInt .i64 b]) (vals := [.int .i64 1, .int .i64 b]) [] (fun h => by cases h) rfl (Nat.le_of_ble_eq_true (by kernel_rfl)) (MemOk.empty W) fun a hs => ?_
  refine Goes.upto tab2_fits (sp3_ok hl hs.mem) wide 300 [false, false] { todo := [.code body12], sl := { n := Tryd.f12.ntmps, m := argSl 0 [vInt .i64 1, vInt .i64 b] }, mem := [] } (Rx.Sat.rebase hs) (A := ((checkI 1 != 0) = false) ∧ ((bif false then true else checkI b != 0) = false) ∧ ((0 : Int) ≤ 1) ∧ ((1 : Int) < 11) ∧ True) ⟨by decide, by simp [hb], by decide, by decide, trivial⟩ (by kernel_rfl) fun ids1 a1 w1 hp1 hs1 => ?_
  have hs1' : Sat (fun _ => False) W ids1 (wA 1 b).sl (wA 1 b).mem a1 w1 := Sat.toW hs.mem hs1
  have hlen : ids1.length = 1 := by rw [hs1'.mem.len]; kernel_rfl
  obtain ⟨i, rfl⟩ : ∃ i, ids1 = [i] := by
    match ids1, hlen with
    | [i], _ => exact ⟨i, rfl⟩
  exact way_start hl 1 b (by decide) (by decide) (wA_1_op b) (by kernel_rfl) (by kernel_rfl) (fun g => by kernel_rfl) (fun g => by kernel_rfl) (wC_1_mem b) (wC_1_todo b) (wC_1_sub b) h hs1'
theorem wA_2_op (b : Int) : opAt (wA 2 b) = some (some 26, .buildSlice 76 1 #[(0, .tmp 25)]) := by kernel_rfl
theorem wC_2_mem (b : Int) (g : Nat) : (wC 2 b g).mem = [(73, snC (fun i => decide (i = 2)))] := by kernel_rfl
theorem wC_2_todo (b : Int) (g : Nat) : (wC 2 b g).todo = .code (.loop wayL) :: wayK := by kernel_rfl
theorem wC_2_sub (b : Int) (g : Nat) : subL (wayS b (.slice (some ⟨g, 0, none⟩) 1 1)) (wC 2 b g).sl.m := by show _ = _; kernel_rfl
theorem way_2 {t : Nat} {W : World} (hl : Laid t W) (b : Int) (hb : checkI b = 0) {l : List Int} (h : bfs b 12 [(2, [])] (fun i => decide (i = 2)) = some (l, 0)) : Calls Tryd.prog 12 #[.int .i64 2, .int .i64 b] W (WayR W l) := by
  refine Calls.rx Tryd.func12 rfl (args := [vInt .i64 2, vInt .i64 b]) (vals := [.int .i64 2, .int .i64 b]) [] (fun h => by cases h) rfl (Nat.le_of_ble_eq_true (by kernel_rfl)) (MemOk.empty W) fun a hs => ?_
  refine Goes.upto tab2_fits (sp3_ok hl hs.mem) wide 300 [false, false] { todo := [.code body12], sl := { n := Tryd.f12.ntmps, m := argSl 0 [vInt .i64 2, vInt .i64 b] }, mem := [] } (Rx.Sat.rebase hs) (A := ((checkI 2 != 0) = false) ∧ ((bif false then true else checkI b != 0) = false) ∧ ((0 : Int) ≤ 2) ∧ ((2 : Int) < 11) ∧ True) ⟨by decide, by simp [hb], by decide, by decide, trivial⟩ (by kernel_rfl) fun ids1 a1 w1 hp1 hs1 => ?_
  have hs1' : Sat (fun _ => False) W ids1 (wA 2 b).sl (wA 2 b).mem a1 w1 := Sat.toW hs.mem hs1
  have hlen : ids1.length = 1 := by rw [hs1'.mem.len]; kernel_rfl
  obtain ⟨i, rfl⟩ : ∃ i, ids1 = [i] := by
    match ids1, hlen with
    | [i], _ => exact ⟨i, rfl⟩
  exact way_start hl 2 b (by decide) (by decide) (wA_2_op b) (by kernel_rfl) (by kernel_rfl) (fun g => by kernel_rfl) (fun g => by kernel_rfl) (wC_2_mem b) (wC_2_todo b) (wC_2_sub b) h hs1'
theorem wA_3_op (b : Int) : opAt (wA 3 b) = some (some 26, .buildSlice 76 1 #[(0, .tmp 25)]) := by kernel_rfl
theorem wC_3_mem (b : Int) (g : Nat) : (wC 3 b g).mem = [(73, snC (fun i => decide (i = 3)))] := by kernel_rfl
theorem wC_3_todo (b : Int) (g : Nat) : (wC 3 b g).todo = .code (.loop wayL) :: wayK := by kernel_rfl
theorem wC_3_sub (b : Int) (g : Nat) : subL (wayS b (.slice (some ⟨g, 0, none⟩) 1 1)) (wC 3 b g).sl.m := by show _ = _; kernel_rfl
theorem way_3 {t : Nat} {W : World} (hl : Laid t W) (b : Int) (hb : checkI b = 0) {l : List Int} (h : bfs b 12 [(3, [])] (fun i => decide (i = 3)) = some (l, 0)) : Calls Tryd.prog 12 #[.int .i64 3, .int .i64 b] W (WayR W l) := by
  refine Calls.rx Tryd.func12 rfl (args := [vInt .i64 3, vInt .i64 b]) (vals := [.int .i64 3, .int .i64 b]) [] (fun h => by cases h) rfl (Nat.le_of_ble_eq_true (by kernel_rfl)) (MemOk.empty W) fun a hs => ?_
  refine Goes.upto tab2_fits (sp3_ok hl hs.mem) wide 300 [false, false] { todo := [.code body12], sl := { n := Tryd.f12.ntmps, m := argSl 0 [vInt .i64 3, vInt .i64 b] }, mem := [] } (Rx.Sat.rebase hs) (A := ((checkI 3 != 0) = false) ∧ ((bif false then true else checkI b != 0) = false) ∧ ((0 : Int) ≤ 3) ∧ ((3 : Int) < 11) ∧ True) ⟨by decide, by simp [hb], by decide, by decide, trivial⟩ (by kernel_rfl) fun ids1 a1 w1 hp1 hs1 => ?_
  have hs1' : Sat (fun _ => False) W ids1 (wA 3 b).sl (wA 3 b).mem a1 w1 := Sat.toW hs.mem hs1
  have hlen : ids1.length = 1 := by rw [hs1'.mem.len]; kernel_rfl
  obtain ⟨i, rfl⟩ : ∃ i, ids1 = [i] := by
    match ids1, hlen with
    | [i], _ => exact ⟨i, rfl⟩
  exact way_start hl 3 b (by decide) (by decide) (wA_3_op b) (by kernel_rfl) (by kernel_rfl) (fun g => by kernel_rfl) (fun g => by kernel_rfl) (wC_3_mem b) (wC_3_todo b) (wC_3_sub b) h hs1'
theorem wA_4_op (b : Int) : opAt (wA 4 b) = some (some 26, .buildSlice 76 1 #[(0, .tmp 25)]) := by kernel_rfl
theorem wC_4_mem (b : Int) (g : Nat) : (wC 4 b g).mem = [(73, snC (fun i => decide (i = 4)))] := by kernel_rfl
theorem wC_4_todo (b : Int) (g : Nat) : (wC 4 b g).todo = .code (.loop wayL) :: wayK := by kernel_rfl
theorem wC_4_sub (b : Int) (g : Nat) : subL (wayS b (.slice (some ⟨g, 0, none⟩) 1 1)) (wC 4 b g).sl.m := by show _ = _; kernel_rfl
theorem way_4 {t : Nat} {W : World} (hl : Laid t W) (b : Int) (hb : checkI b = 0) {l : List Int} (h : bfs b 12 [(4, [])] (fun i => decide (i = 4)) = some (l, 0)) : Calls Tryd.prog 12 #[.int .i64 4, .int .i64 b] W (WayR W l) := by
  refine Calls.rx Tryd.func12 rfl (args := [vInt .i64 4, vInt .i64 b]) (vals := [.int .i64 4, .int .i64 b]) [] (fun h => by cases h) rfl (Nat.le_of_ble_eq_true (by kernel_rfl)) (MemOk.empty W) fun a hs => ?_
  refine Goes.upto tab2_fits (sp3_ok hl hs.mem) wide 300 [false, false] { todo := [.code body12], sl := { n := Tryd.f12.ntmps, m := argSl 0 [vInt .i64 4, vInt .i64 b] }, mem := [] } (Rx.Sat.rebase hs) (A := ((checkI 4 != 0) = false) ∧ ((bif false then true else checkI b != 0) = false) ∧ ((0 : Int) ≤ 4) ∧ ((4 : Int) < 11) ∧ True) ⟨by decide, by simp [hb], by decide, by decide, trivial⟩ (by kernel_rfl) fun ids1 a1 w1 hp1 hs1 => ?_
  have hs1' : Sat (fun _ => False) W ids1 (wA 4 b).sl (wA 4 b).mem a1 w1 := Sat.toW hs.mem hs1
  have hlen : ids1.length = 1 := by rw [hs1'.mem.len]; kernel_rfl
  obtain ⟨i, rfl⟩ : ∃ i, ids1 = [i] := by
    match ids1, hlen with
    | [i], _ => exact ⟨i, rfl⟩
  exact way_start hl 4 b (by decide) (by decide) (wA_4_op b) (by kernel_rfl) (by kernel_rfl) (fun g => by kernel_rfl) (fun g => by kernel_rfl) (wC_4_mem b) (wC_4_todo b) (wC_4_sub b) h hs1'
theorem wA_5_op (b : Int) : opAt (wA 5 b) = some (some 26, .buildSlice 76 1 #[(0, .tmp 25)]) := by kernel_rfl
theorem wC_5_mem (b : Int) (g : Nat) : (wC 5 b g).mem = [(73, snC (fun i => decide (i = 5)))] := by kernel_rfl
theorem wC_5_todo (b : Int) (g : Nat) : (wC 5 b g).todo = .code (.loop wayL) :: wayK := by kernel_rfl
theorem wC_5_sub (b : Int) (g : Nat) : subL (wayS b (.slice (some ⟨g, 0, none⟩) 1 1)) (wC 5 b g).sl.m := by show _ = _; kernel_rfl
theorem way_5 {t : Nat} {W : World} (hl : Laid t W) (b : Int) (hb : checkI b = 0) {l : List Int} (h : bfs b 12 [(5, [])] (fun i => decide (i = 5)) = some (l, 0)) : Calls Tryd.prog 12 #[.int .i64 5, .int .i64 b] W (WayR W l) := by
  refine Calls.rx Tryd.func12 rfl (args := [vInt .i64 5, vInt .i64 b]) (vals := [.int .i64 5, .int .i64 b]) [] (fun h => by cases h) rfl (Nat.le_of_ble_eq_true (by kernel_rfl)) (MemOk.empty W) fun a hs => ?_
  refine Goes.upto tab2_fits (sp3_ok hl hs.mem) wide 300 [false, false] { todo := [.code body12], sl := { n := Tryd.f12.ntmps, m := argSl 0 [vInt .i64 5, vInt .i64 b] }, mem := [] } (Rx.Sat.rebase hs) (A := ((checkI 5 != 0) = false) ∧ ((bif false then true else checkI b != 0) = false) ∧ ((0 : Int) ≤ 5) ∧ ((5 : Int) < 11) ∧ True) ⟨by decide, by simp [hb], by decide, by decide, trivial⟩ (by kernel_rfl) fun ids1 a1 w1 hp1 hs1 => ?_
  have hs1' : Sat (fun _ => False) W ids1 (wA 5 b).sl (wA 5 b).mem a1 w1 := Sat.toW hs.mem hs1
  have hlen : ids1.length = 1 := by rw [hs1'.mem.len]; kernel_rfl
  obtain ⟨i, rfl⟩ : ∃ i, ids1 = [i] := by
    match ids1, hlen with
    | [i], _ => exact ⟨i, rfl⟩
  exact way_start hl 5 b (by decide) (by decide) (wA_5_op b) (by kernel_rfl) (by kernel_rfl) (fun g => by kernel_rfl) (fun g => by kernel_rfl) (wC_5_mem b) (wC_5_todo b) (wC_5_sub b) h hs1'
theorem wA_6_op (b : Int) : opAt (wA 6 b) = some (some 26, .buildSlice 76 1 #[(0, .tmp 25)]) := by kernel_rfl
theorem wC_6_mem (b : Int) (g : Nat) : (wC 6 b g).mem = [(73, snC (fun i => decide (i = 6)))] := by kernel_rfl
theorem wC_6_todo (b : Int) (g : Nat) : (wC 6 b g).todo = .code (.loop wayL) :: wayK := by kernel_rfl
theorem wC_6_sub (b : Int) (g : Nat) : subL (wayS b (.slice (some ⟨g, 0, none⟩) 1 1)) (wC 6 b g).sl.m := by show _ = _; kernel_rfl
theorem way_6 {t : Nat} {W : World} (hl : Laid t W) (b : Int) (hb : checkI b = 0) {l : List Int} (h : bfs b 12 [(6, [])] (fun i => decide (i = 6)) = some (l, 0)) : Calls Tryd.prog 12 #[.int .i64 6, .int .i64 b] W (WayR W l) := by
  refine Calls.rx Tryd.func12 rfl (args := [vInt .i64 6, vInt .i64 b]) (vals := [.int .i64 6, .int .i64 b]) [] (fun h => by cases h) rfl (Nat.le_of_ble_eq_true (by kernel_rfl)) (MemOk.empty W) fun a hs => ?_
  refine Goes.upto tab2_fits (sp3_ok hl hs.mem) wide 300 [false, false] { todo := [.code body12], sl := { n := Tryd.f12.ntmps, m := argSl 0 [vInt .i64 6, vInt .i64 b] }, mem := [] } (Rx.Sat.rebase hs) (A := ((checkI 6 != 0) = false) ∧ ((bif false then true else checkI b != 0) = false) ∧ ((0 : Int) ≤ 6) ∧ ((6 : Int) < 11) ∧ True) ⟨by decide, by simp [hb], by decide, by decide, trivial⟩ (by kernel_rfl) fun ids1 a1 w1 hp1 hs1 => ?_
  have hs1' : Sat (fun _ => False) W ids1 (wA 6 b).sl (wA 6 b).mem a1 w1 := Sat.toW hs.mem hs1
  have hlen : ids1.length = 1 := by rw [hs1'.mem.len]; kernel_rfl
  obtain ⟨i, rfl⟩ : ∃ i, ids1 = [i] := by
    match ids1, hlen with
    | [i], _ => exact ⟨i, rfl⟩
  exact way_start hl 6 b (by decide) (by decide) (wA_6_op b) (by kernel_rfl) (by kernel_rfl) (fun g => by kernel_rfl) (fun g => by kernel_rfl) (wC_6_mem b) (wC_6_todo b) (wC_6_sub b) h hs1'
theorem wA_7_op (b : Int) : opAt (wA 7 b) = some (some 26, .buildSlice 76 1 #[(0, .tmp 25)]) := by kernel_rfl
theorem wC_7_mem (b : Int) (g : Nat) : (wC 7 b g).mem = [(73, snC (fun i => decide (i = 7)))] := by kernel_rfl
theorem wC_7_todo (b : Int) (g : Nat) : (wC 7 b g).todo = .code (.loop wayL) :: wayK := by kernel_rfl
theorem wC_7_sub (b : Int) (g : Nat) : subL (wayS b (.slice (some ⟨g, 0, none⟩) 1 1)) (wC 7 b g).sl.m := by show _ = _; kernel_rfl
theorem way_7 {t : Nat} {W : World} (hl : Laid t W) (b : Int) (hb : checkI b = 0) {l : List Int} (h : bfs b 12 [(7, [])] (fun i => decide (i = 7)) = some (l, 0)) : Calls Tryd.prog 12 #[.int .i64 7, .int .i64 b] W (WayR W l) := by
  refine Calls.rx Tryd.func12 rfl (args := [vInt .i64 7, vInt .i64 b]) (vals := [.int .i64 7, .int .i64 b]) [] (fun h => by cases h) rfl (Nat.le_of_ble_eq_true (by kernel_rfl)) (MemOk.empty W) fun a hs => ?_
  refine Goes.upto tab2_fits (sp3_ok hl hs.mem) wide 300 [false, false] { todo := [.code body12], sl := { n := Tryd.f12.ntmps, m := argSl 0 [vInt .i64 7, vInt .i64 b] }, mem := [] } (Rx.Sat.rebase hs) (A := ((checkI 7 != 0) = false) ∧ ((bif false then true else checkI b != 0) = false) ∧ ((0 : Int) ≤ 7) ∧ ((7 : Int) < 11) ∧ True) ⟨by decide, by simp [hb], by decide, by decide, trivial⟩ (by kernel_rfl) fun ids1 a1 w1 hp1 hs1 => ?_
  have hs1' : Sat (fun _ => False) W ids1 (wA 7 b).sl (wA 7 b).mem a1 w1 := Sat.toW hs.mem hs1
  have hlen : ids1.length = 1 := by rw [hs1'.mem.len]; kernel_rfl
  obtain ⟨i, rfl⟩ : ∃ i, ids1 = [i] := by
    match ids1, hlen with
    | [i], _ => exact ⟨i, rfl⟩
  exact way_start hl 7 b (by decide) (by decide) (wA_7_op b) (by kernel_rfl) (by kernel_rfl) (fun g => by kernel_rfl) (fun g => by kernel_rfl) (wC_7_mem b) (wC_7_todo b) (wC_7_sub b) h hs1'
theorem wA_8_op (b : Int) : opAt (wA 8 b) = some (some 26, .buildSlice 76 1 #[(0, .tmp 25)]) := by kernel_rfl
theorem wC_8_mem (b : Int) (g : Nat) : (wC 8 b g).mem = [(73, snC (fun i => decide (i = 8)))] := by kernel_rfl
theorem wC_8_todo (b : Int) (g : Nat) : (wC 8 b g).todo = .code (.loop wayL) :: wayK := by kernel_rfl
theorem wC_8_sub (b : Int) (g : Nat) : subL (wayS b (.slice (some ⟨g, 0, none⟩) 1 1)) (wC 8 b g).sl.m := by show _ = _; kernel_rfl
theorem way_8 {t : Nat} {W : World} (hl : Laid t W) (b : Int) (hb : checkI b = 0) {l : List Int} (h : bfs b 12 [(8, [])] (fun i => decide (i = 8)) = some (l, 0)) : Calls Tryd.prog 12 #[.int .i64 8, .int .i64 b] W (WayR W l) := by
  refine Calls.rx Tryd.func12 rfl (args := [vInt .i64 8, vInt .i64 b]) (vals := [.int .i64 8, .int .i64 b]) [] (fun h => by cases h) rfl (Nat.le_of_ble_eq_true (by kernel_rfl)) (MemOk.empty W) fun a hs => ?_
  refine Goes.upto tab2_fits (sp3_ok hl hs.mem) wide 300 [false, false] { todo := [.code body12], sl := { n := Tryd.f12.ntmps, m := argSl 0 [vInt .i64 8, vInt .i64 b] }, mem := [] } (Rx.Sat.rebase hs) (A := ((checkI 8 != 0) = false) ∧ ((bif false then true else checkI b != 0) = false) ∧ ((0 : Int) ≤ 8) ∧ ((8 : Int) < 11) ∧ True) ⟨by decide, by simp [hb], by decide, by decide, trivial⟩ (by kernel_rfl) fun ids1 a1 w1 hp1 hs1 => ?_
  have hs1' : Sat (fun _ => False) W ids1 (wA 8 b).sl (wA 8 b).mem a1 w1 := Sat.toW hs.mem hs1
  have hlen : ids1.length = 1 := by rw [hs1'.mem.len]; kernel_rfl
  obtain ⟨i, rfl⟩ : ∃ i, ids1 = [i] := by
    match ids1, hlen with
    | [i], _ => exact ⟨i, rfl⟩
  exact way_start hl 8 b (by decide) (by decide) (wA_8_op b) (by kernel_rfl) (by kernel_rfl) (fun g => by kernel_rfl) (fun g => by kernel_rfl) (wC_8_mem b) (wC_8_todo b) (wC_8_sub b) h hs1'
theorem wA_9_op (b : Int) : opAt (wA 9 b) = some (some 26, .buildSlice 76 1 #[(0, .tmp 25)]) := by kernel_rfl
theorem wC_9_mem (b : Int) (g : Nat) : (wC 9 b g).mem = [(73, snC (fun i => decide (i = 9)))] := by kernel_rfl
theorem wC_9_todo (b : Int) (g : Nat) : (wC 9 b g).todo = .code (.loop wayL) :: wayK := by kernel_rfl
theorem wC_9_sub (b : Int) (g : Nat) : subL (wayS b (.slice (some ⟨g, 0, none⟩) 1 1)) (wC 9 b g).sl.m := by show _ = _; kernel_rfl
theorem way_9 {t : Nat} {W : World} (hl : Laid t W) (b : Int) (hb : checkI b = 0) {l : List Int} (h : bfs b 12 [(9, [])] (fun i => decide (i = 9)) = some (l, 0)) : Calls Tryd.prog 12 #[.int .i64 9, .int .i64 b] W (WayR W l) := by
  refine Calls.rx Tryd.func12 rfl (args := [vInt .i64 9, vInt .i64 b]) (vals := [.int .i64 9, .int .i64 b]) [] (fun h => by cases h) rfl (Nat.le_of_ble_eq_true (by kernel_rfl)) (MemOk.empty W) fun a hs => ?_
  refine Goes.upto tab2_fits (sp3_ok hl hs.mem) wide 300 [false, false] { todo := [.code body12], sl := { n := Tryd.f12.ntmps, m := argSl 0 [vInt .i64 9, vInt .i64 b] }, mem := [] } (Rx.Sat.rebase hs) (A := ((checkI 9 != 0) = false) ∧ ((bif false then true else checkI b != 0) = false) ∧ ((0 : Int) ≤ 9) ∧ ((9 : Int) < 11) ∧ True) ⟨by decide, by simp [hb], by decide, by decide, trivial⟩ (by kernel_rfl) fun ids1 a1 w1 hp1 hs1 => ?_
  have hs1' : Sat (fun _ => False) W ids1 (wA 9 b).sl (wA 9 b).mem a1 w1 := Sat.toW hs.mem hs1
  have hlen : ids1.length = 1 := by rw [hs1'.mem.len]; kernel_rfl
  obtain ⟨i, rfl⟩ : ∃ i, ids1 = [i] := by
    match ids1, hlen with
    | [i], _ => exact ⟨i, rfl⟩
  exact way_start hl 9 b (by decide) (by decide) (wA_9_op b) (by kernel_rfl) (by kernel_rfl) (fun g => by kernel_rfl) (fun g => by kernel_rfl) (wC_9_mem b) (wC_9_todo b) (wC_9_sub b) h hs1'
theorem wA_10_op (b : Int) : opAt (wA 10 b) = some (some 26, .buildSlice 76 1 #[(0, .tmp 25)]) := by kernel_rfl
theorem wC_10_mem (b : Int) (g : Nat) : (wC 10 b g).mem = [(73, snC (fun i => decide (i = 10)))] := by kernel_rfl
theorem wC_10_todo (b : Int) (g : Nat) : (wC 10 b g).todo = .code (.loop wayL) :: wayK := by kernel_rfl
theorem wC_10_sub (b : Int) (g : Nat) : subL (wayS b (.slice (some ⟨g, 0, none⟩) 1 1)) (wC 10 b g).sl.m := by show _ = _; kernel_rfl
theorem way_10 {t : Nat} {W : World} (hl : Laid t W) (b : Int) (hb : checkI b = 0) {l : List Int} (h : bfs b 12 [(10, [])] (fun i => decide (i = 10)) = some (l, 0)) : Calls Tryd.prog 12 #[.int .i64 10, .int .i64 b] W (WayR W l) := by
  refine Calls.rx Tryd.func12 rfl (args := [vInt .i64 10, vInt .i64 b]) (vals := [.int .i64 10, .int .i64 b]) [] (fun h => by cases h) rfl (Nat.le_of_ble_eq_true (by kernel_rfl)) (MemOk.empty W) fun a hs => ?_
  refine Goes.upto tab2_fits (sp3_ok hl hs.mem) wide 300 [false, false] { todo := [.code body12], sl := { n := Tryd.f12.ntmps, m := argSl 0 [vInt .i64 10, vInt .i64 b] }, mem := [] } (Rx.Sat.rebase hs) (A := ((checkI 10 != 0) = false) ∧ ((bif false then true else checkI b != 0) = false) ∧ ((0 : Int) ≤ 10) ∧ ((10 : Int) < 11) ∧ True) ⟨by decide, by simp [hb], by decide, by decide, trivial⟩ (by kernel_rfl) fun ids1 a1 w1 hp1 hs1 => ?_
  have hs1' : Sat (fun _ => False) W ids1 (wA 10 b).sl (wA 10 b).mem a1 w1 := Sat.toW hs.mem hs1
  have hlen : ids1.length = 1 := by rw [hs1'.mem.len]; kernel_rfl
  obtain ⟨i, rfl⟩ : ∃ i, ids1 = [i] := by
    match ids1, hlen with
    | [i], _ => exact ⟨i, rfl⟩
  exact way_start hl 10 b (by decide) (by decide) (wA_10_op b) (by kernel_rfl) (by kernel_rfl) (fun g => by kernel_rfl) (fun g => by kernel_rfl) (wC_10_mem b) (wC_10_todo b) (wC_10_sub b) h hs1'
theorem check_in {b : Int} (h0 : 0 ≤ b) (h1 : b < 11) : checkI b = 0 := by unfold checkI; rw [if_neg (by omega), if_neg (by omega)]
/-- What Way answers, of two states. -/
theorem way_calls {t : Nat} {W : World} (hl : Laid t W) {x b : Int} (h0 : 0 ≤ x) (h1 : x < 11) (h2 : 0 ≤ b) (h3 : b < 11) :
    ∃ l, goes x l = (b, 0) ∧ l.length < 12 ∧ (∀ e ∈ l, 0 ≤ e ∧ e < 10) ∧ Calls Tryd.prog 12 #[.int .i64 x, .int .i64 b] W (WayR W l) := by
  obtain ⟨i, rfl⟩ := Int.eq_ofNat_of_zero_le h0
  obtain ⟨j, rfl⟩ := Int.eq_ofNat_of_zero_le h2
  have hw := way_all ⟨i, by omega⟩ ⟨j, by omega⟩
  unfold wayOk at hw
  simp only at hw
  split at hw
  · rename_i l e hl'
    simp only [Bool.and_eq_true, beq_iff_eq, decide_eq_true_eq, List.all_eq_true] at hw
    obtain ⟨⟨⟨he, hg⟩, hlen⟩, hall⟩ := hw
    subst he
    refine ⟨l, hg, hlen, hall, ?_⟩
    have hc := check_in h2 h3
    match i, h1 with
    | 0, _ => exact way_0 hl _ hc hl'
    | 1, _ => exact way_1 hl _ hc hl'
    | 2, _ => exact way_2 hl _ hc hl'
    | 3, _ => exact way_3 hl _ hc hl'
    | 4, _ => exact way_4 hl _ hc hl'
    | 5, _ => exact way_5 hl _ hc hl'
    | 6, _ => exact way_6 hl _ hc hl'
    | 7, _ => exact way_7 hl _ hc hl'
    | 8, _ => exact way_8 hl _ hc hl'
    | 9, _ => exact way_9 hl _ hc hl'
    | 10, _ => exact way_10 hl _ hc hl'
    | k + 11, h => exact absurd h (by omega)
  · cases hw
end Go.Proofs.YtopjfkcoknenfaaDoor.Cn
