/- ConnLeads answers true where the table of the states is in its block. -/
import Derived.Test.YtopjfkcoknenfaaDoorCn10
namespace Go.Proofs.YtopjfkcoknenfaaDoor.Cn
open Go Go.Rx Go.RowKit Go.Proofs.YtopjfkcoknenfaaDoor
set_option linter.unusedVariables false
set_option maxRecDepth 100000
noncomputable def body5 : Code := Tryd.f5.body.getD .skip
noncomputable def lA (a b : Int) : Cfg := (run tab2 sp1 300 [false] { todo := [.code body5], sl := { n := Tryd.f5.ntmps, m := argSl 0 [vInt .i64 a, vInt .i64 b], gl := [] }, mem := [] }).2
noncomputable def lB (a b : Int) (v : Value) : Cfg := (run tab2 sp1 300 [] (answered (lA a b) (.l (.v (.tuple #[v, .int .i64 0]))) (lA a b).mem)).2
noncomputable def leadL : Code := loopOf (lB 0 0 (.slice none 0 0)).todo
noncomputable def leadK : List Item := (lB 0 0 (.slice none 0 0)).todo.tail
def leadS (A : Option Addr) (n c : Nat) (q b i : Int) : List (Nat × SV) := [(0, vInt .i64 q), (1, vInt .i64 b), (4, vBool false), (5, .l (.v (.slice A n c))), (6, vInt .i64 0), (7, vInt .i64 i)]
noncomputable def lD (A : Option Addr) (n c : Nat) (q b i : Int) : Cfg := { todo := .code leadL :: .inLoop leadL :: leadK, sl := { n := 47, m := leadS A n c q b i }, mem := [] }
noncomputable def lE (A : Addr) (n c : Nat) (q b i : Int) : Cfg := (run tab2 sp1 300 [true, true] (lD (some A) n c q b i)).2
noncomputable def lF (A : Addr) (n c : Nat) (q b i : Int) : Cfg := answered (lE A n c q b i) (.l (.v (.pointer (some (A.add (i.toNat * 1)))))) (lE A n c q b i).mem
noncomputable def lG (A : Addr) (n c : Nat) (q b i z : Int) : Cfg := answered (lF A n c q b i) (.l (.v (.int .i64 z))) (lF A n c q b i).mem
noncomputable def lH (A : Addr) (n c : Nat) (q b i z : Int) : Cfg := (run tab2 sp1 300 [] (lG A n c q b i z)).2
section
variable (a b : Int) (v : Value) (A : Addr) (B : Option Addr) (n c : Nat) (q i z : Int)
theorem lB_todo : (lB a b v).todo = .code (.loop leadL) :: leadK := by kernel_rfl
theorem lB_mem : (lB a b v).mem = [] := by kernel_rfl
theorem lB_sub : subL (leadS B n c (restI a 11) (restI b 11) 0) (lB a b (.slice B n c)).sl.m := by show _ = _; kernel_rfl
theorem lH_todo : (lH A n c q b i z).todo = .inLoop leadL :: leadK := by kernel_rfl
theorem lH_mem : (lH A n c q b i z).mem = [] := by kernel_rfl
/-- What the way's step lays into the slots. -/
def leadS' (A : Option Addr) (n c : Nat) (q e b i : Int) : List (Nat × SV) := [(0, vInt .i64 q), (1, vInt .i64 b), (4, vBool false), (5, .l (.v (.slice A n c))), (6, vInt .i64 e), (7, vInt .i64 i)]
theorem lH_sub : subL (leadS' (some A) n c (stepI q z).1 (stepI q z).2.2 b (IntKind.i64.wrap (i + 1))) (lH A n c q b i z).sl.m := by show _ = _; kernel_rfl
end
theorem leads_loop {t : Nat} {W : World} (hl : Laid t W) {l : List Int} {B : Option Addr} {c : Nat} (hrow : Row W 3 1 (.slice B l.length c) l.length (ints l)) (hlen : l.length < 12) {b : Int} :
    ∀ (k : Nat) (q i : Int) (a : Act) (w : World), 0 ≤ i → i + k = l.length → goes q (l.drop i.toNat) = (b, 0) → Sat (fun _ => False) W [] { n := 47, m := leadS B l.length c q b i } [] a w →
      Goes Tryd.prog 5 (.code leadL :: .inLoop leadL :: leadK) a w fun x w' => x = .returned (.bool true) ∧ Below W.heap.size W w'
  | 0, q, i, a, w, h0, h1, hg, hs => by
    have hd : l.drop i.toNat = [] := List.drop_of_length_le (by omega)
    rw [hd] at hg
    have hq : q = b := congrArg Prod.fst hg
    have hi : decide (i < (l.length : Int)) = false := by simp; omega
    refine Goes.path tab2_fits (sp1_ok hl) wide Tryd.func5 300 [false, false, true] (lD B l.length c q b i) hs (A := ((decide (i < (l.length : Int))) = false) ∧ (false = false) ∧ (true = true) ∧ True) (vs := [.bool (bif true then q == b else false)]) ⟨hi, rfl, rfl, trivial⟩ (by kernel_rfl) (by kernel_rfl) (by kernel_rfl) fun ids' w' _ hm => ⟨?_, ?_⟩
    · simp [oneOf, hq]
    · have hm' : MemOk (fun _ => False) W ids' [] w' := by
        have : (run tab2 sp1 300 [false, false, true] (lD B l.length c q b i)).2.mem = [] := by kernel_rfl
        rw [this] at hm
        exact hm
      exact hm'.toBelow
  | k + 1, q, i, a, w, h0, h1, hg, hs => by
    obtain ⟨x, rfl⟩ : ∃ x, B = some x := by
      rcases hrow.2 with ⟨h, h2⟩ | ⟨g, o, cap, cur, h, _⟩
      · omega
      · cases h; exact ⟨_, rfl⟩
    have hlt : i.toNat < l.length := by omega
    obtain ⟨z, hz⟩ : ∃ z, z = l[i.toNat] := ⟨_, rfl⟩
    have hdrop : l.drop i.toNat = z :: l.drop (i.toNat + 1) := by rw [hz]; exact List.drop_eq_getElem_cons hlt
    rw [hdrop, goes] at hg
    have hok : (stepI q z).2.2 = 0 := by
      rcases Decidable.em ((stepI q z).2.2 = 0) with h | h
      · exact h
      · rw [if_neg h] at hg
        exact absurd (congrArg Prod.snd hg) h
    rw [if_pos hok] at hg
    have hi : decide (i < (l.length : Int)) = true := by simp; omega
    refine Goes.upto tab2_fits (sp1_ok hl) wide 300 [true, true] (lD (some x) l.length c q b i) hs (A := (decide (i < (l.length : Int)) = true) ∧ (true = true) ∧ True) ⟨hi, rfl, trivial⟩ (by kernel_rfl) fun ids' a1 w1 _ hs1 => ?_
    have hs1' : Sat (fun _ => False) W ids' (lE x l.length c q b i).sl (lE x l.length c q b i).mem a1 w1 := hs1
    have hmem : (lE x l.length c q b i).mem = [] := by kernel_rfl
    have hids : ids' = [] := by have := hs1'.mem; rw [hmem] at this; exact this.nil
    subst hids
    refine Goes.atIndex (lE x l.length c q b i) (dst := some 34) (t := 22) (x := .tmp 32) (ix := .tmp 33) (by kernel_rfl) (by kernel_rfl) (A := x) (n := l.length) (cap := c) (sz := 1) (k := .i64) (i := i) (by kernel_rfl) (by kernel_rfl) Tryd.underlying22 (fun w => (Tab.fits_look tab2_fits (t := 3) rfl).size w) h0 (by omega) hs1' fun a2 hs2 => ?_
    have hcell0 : W.cell? (x.add i.toNat) = some (.int .i64 z) := hrow.cell (by simp [ints, hz, hlt])
    have hxlt : x.block < W.heap.size := hrow.lt rfl
    have hcell' : w1.cell? (x.add (i.toNat * 1)) = some (.int .i64 z) := by
      rw [Nat.mul_one]
      have hk := hs1'.mem.kept x.block hxlt id
      rw [← hcell0]
      have hb : (x.add i.toNat).block = x.block := by unfold Addr.add; split <;> rfl
      simp only [World.cell?, hb, hk]
    refine Goes.atLoad (lF x l.length c q b i) (dst := some 35) (t := 3) (ad := .tmp 34) (by kernel_rfl) (by kernel_rfl) (A := x.add (i.toNat * 1)) (v := .int .i64 z) (by kernel_rfl) (by kernel_rfl) hs2 hcell' fun a3 hs3 => ?_
    refine Goes.upto tab2_fits (sp1_ok hl) wide 300 [] (lG x l.length c q b i z) hs3 (A := True) trivial (by kernel_rfl) fun ids4 a4 w4 _ hs4 => ?_
    have hs4' : Sat (fun _ => False) W ids4 (lH x l.length c q b i z).sl (lH x l.length c q b i z).mem a4 w4 := hs4
    show Goes Tryd.prog 5 (lH x l.length c q b i z).todo a4 w4 _
    rw [lH_todo]
    have hr := hs4'.round _ (lH_mem ..) (lH_sub ..) (n := 47) (by kernel_rfl)
    have hw : IntKind.i64.wrap (i + 1) = i + 1 := by rw [IntKind.wrap_i64]; omega
    rw [hok, hw] at hr
    refine Goes.one (fun _ _ _ _ => step_inLoop) ?_
    refine leads_loop hl hrow hlen k (stepI q z).1 (i + 1) a4 w4 (by omega) (by omega) ?_ hr
    rw [show (i + 1).toNat = i.toNat + 1 from by omega]
    exact hg
theorem connLeads_calls {t : Nat} {W : World} (hl : Laid t W) (x y : Int) : Calls Tryd.prog 5 #[.int .i64 x, .int .i64 y] W fun e w' => e = .returned (.bool true) ∧ Below W.heap.size W w' := by
  have rx := rest_in x 11 (by omega) (by omega)
  have ry := rest_in y 11 (by omega) (by omega)
  refine Calls.rx Tryd.func5 rfl (args := [vInt .i64 x, vInt .i64 y]) (vals := [.int .i64 x, .int .i64 y]) [] (fun h => by cases h) rfl (Nat.le_of_ble_eq_true (by kernel_rfl)) (MemOk.empty W) fun a hs => ?_
  refine Goes.upto tab2_fits (sp1_ok hl) wide 300 [false] { todo := [.code body5], sl := { n := Tryd.f5.ntmps, m := argSl 0 [vInt .i64 x, vInt .i64 y] }, mem := [] } hs (A := ((!true) = false) ∧ True) ⟨rfl, trivial⟩ (by kernel_rfl) fun ids1 a1 w1 _ hs1 => ?_
  have hs1' : Sat (fun _ => False) W ids1 (lA x y).sl (lA x y).mem a1 w1 := hs1
  have hids : ids1 = [] := by
    have := hs1'.mem
    rw [show (lA x y).mem = [] from by kernel_rfl] at this
    exact this.nil
  subst hids
  have hb1 : Below W.heap.size W w1 := by
    have := hs1'.mem
    exact this.toBelow
  have hl1 : Laid t w1 := by
    have := hs1'.mem
    rw [show (lA x y).mem = [] from by kernel_rfl] at this
    exact hl.kept this
  show Goes Tryd.prog 5 (lA x y).todo a1 w1 _
  obtain ⟨l, hgoes, hlen, _, hcalls⟩ := way_calls hl1 (x := restI x 11) (b := restI y 11) rx.1 rx.2 ry.1 ry.2
  refine Goes.atCall (lA x y) (g := 12) (args := [vInt .i64 (restI x 11), vInt .i64 (restI y 11)]) (by kernel_rfl) (by kernel_rfl) hs1' (vals := [.int .i64 (restI x 11), .int .i64 (restI y 11)]) rfl ?_
  refine hcalls.mono fun e w2 ⟨v, he, hrow, ⟨A, c, hv⟩, hb2⟩ => ⟨_, he, fun a2 hsl => ?_⟩
  subst hv
  have hm2 : MemOk (fun _ => False) w2 [] [] w2 := MemOk.empty w2
  have hl2 : Laid t w2 := hl1.below hb2
  have hs2 : Sat (fun _ => False) w2 [] (answered (lA x y) (.l (.v (.tuple #[.slice A l.length c, .int .i64 0]))) (lA x y).mem).sl (answered (lA x y) (.l (.v (.tuple #[.slice A l.length c, .int .i64 0]))) (lA x y).mem).mem a2 w2 := by
    refine ⟨hsl [] _ List.prefix_rfl rfl, ?_⟩
    rw [show (answered (lA x y) (.l (.v (.tuple #[.slice A l.length c, .int .i64 0]))) (lA x y).mem).mem = [] from by kernel_rfl]
    exact hm2
  refine Goes.upto tab2_fits (sp1_ok hl2) wide 300 [] (answered (lA x y) (.l (.v (.tuple #[.slice A l.length c, .int .i64 0]))) (lA x y).mem) hs2 (A := True) trivial (by kernel_rfl) fun ids3 a3 w3 _ hs3 => ?_
  have hs3' : Sat (fun _ => False) w2 ids3 (lB x y (.slice A l.length c)).sl (lB x y (.slice A l.length c)).mem a3 w3 := hs3
  show Goes Tryd.prog 5 (lB x y (.slice A l.length c)).todo a3 w3 _
  rw [lB_todo]
  refine Goes.one (fun _ _ _ _ => step_loop) ?_
  have hr := hs3'.round _ (lB_mem ..) (lB_sub ..) (n := 47) (by kernel_rfl)
  refine (leads_loop hl2 hrow hlen l.length (restI x 11) 0 a3 w3 (by omega) (by omega) (by simpa using hgoes) hr).mono fun e w' ⟨he, hb⟩ => ⟨he, ?_⟩
  have hsz : W.heap.size ≤ w1.heap.size := hs1'.mem.size
  exact (hb1.trans (hb2.mono hsz)).trans (hb.mono (Nat.le_trans hsz hb2.size))
end Go.Proofs.YtopjfkcoknenfaaDoor.Cn
