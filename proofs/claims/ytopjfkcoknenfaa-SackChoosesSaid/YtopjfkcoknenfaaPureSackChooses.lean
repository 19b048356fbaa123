/- SackChooses: at most three blocks are chosen, all from the list, and the one with the number first. No condition: every input. -/
import Derived.Test.YtopjfkcoknenfaaPSackChoosesx8
namespace Go.Proofs.Ytopjfkcoknenfaa.Pure
open Go.RowKit Go.Proofs.Ytopjfkcoknenfaa.PSackChooses Go.Proofs.YtopjfkcoknenfaaW.PrintWords Go.Proofs.YtopjfkcoknenfaaW.PrintLast Go.Proofs.YtopjfkcoknenfaaW.PrintMore
namespace CSackChooses
set_option linter.unusedVariables false
theorem w64 {x : Int} (h1 : -9223372036854775808 ≤ x) (h2 : x ≤ 9223372036854775807) : wrap64 x = x := by unfold wrap64; omega
theorem rest_some (a m : Int) (hm : 0 < m) (hm2 : m ≤ 100000) : ∃ r, patchbaykeep3_rest.f a m = some r ∧ 0 ≤ r ∧ r < m := by
  unfold patchbaykeep3_rest.f
  rw [if_neg (by omega)]
  have h1 := Int.tmod_lt_of_pos a hm
  have h2 : -m < Int.tmod a m := by
    have := Int.tmod_lt_of_pos (-a) hm
    rw [Int.neg_tmod] at this
    omega
  by_cases h : Int.tmod a m < 0
  · rw [if_pos h]
    exact ⟨_, rfl, by rw [w64 (by omega) (by omega)]; omega, by rw [w64 (by omega) (by omega)]; omega⟩
  · rw [if_neg h]
    exact ⟨_, rfl, by omega, by omega⟩
/-! ### Spans -/
def Sep : Int → List S64 → Prop
  | _, [] => True
  | lo, y :: r => lo < y.f0 ∧ y.f0 < y.f1 ∧ y.f1 ≤ 300 ∧ Sep y.f1 r
def top : Int → List S64 → Int
  | lo, [] => lo
  | _, y :: r => top y.f1 r
theorem Sep_append : ∀ (a b : List S64) (lo : Int), Sep lo (a ++ b) ↔ Sep lo a ∧ Sep (top lo a) b
  | [], b, lo => by simp [Sep, top]
  | y :: r, b, lo => by simp [Sep, top, Sep_append r b, and_assoc]
theorem top_append : ∀ (a : List S64) (y : S64) (lo : Int), top lo (a ++ [y]) = y.f1
  | [], y, lo => rfl
  | z :: r, y, lo => by simp [top, top_append r y]
theorem Sep_weak {lo lo' : Int} (h : lo' ≤ lo) : ∀ {l : List S64}, Sep lo l → Sep lo' l
  | [], _ => trivial
  | y :: r, hs => ⟨by have := hs.1; omega, hs.2⟩
def withL (out : List S64) : List S64 → S64 → List S64
  | [], x => out ++ [x]
  | y :: r, x => if y.f1 < x.f0 then withL (out ++ [y]) r x else if x.f1 < y.f0 then out ++ [x] ++ (y :: r) else withL out r ⟨mn x.f0 y.f0, mx x.f1 y.f1⟩
theorem withL_sep : ∀ (l out : List S64) (x : S64), Sep 0 out → Sep (top 0 out) l → top 0 out < x.f0 → x.f0 < x.f1 → x.f1 ≤ 300 → Sep 0 (withL out l x) ∧ (withL out l x).length ≤ out.length + l.length + 1
  | [], out, x, ho, _, h1, h2, h3 => by
    refine ⟨(Sep_append _ _ _).2 ⟨ho, h1, h2, h3, trivial⟩, by simp [withL]⟩
  | y :: r, out, x, ho, hl, h1, h2, h3 => by
    obtain ⟨g1, g2, g3, g4⟩ := hl
    unfold withL
    split
    · rename_i hc
      have := withL_sep r (out ++ [y]) x ((Sep_append _ _ _).2 ⟨ho, g1, g2, g3, trivial⟩) (by rw [top_append]; exact g4) (by rw [top_append]; exact hc) h2 h3
      refine ⟨this.1, Nat.le_trans this.2 (by simp <;> omega)⟩
    · split
      · rename_i hc hc2
        refine ⟨?_, by simp; omega⟩
        rw [List.append_assoc]
        exact (Sep_append _ _ _).2 ⟨ho, h1, h2, h3, hc2, g2, g3, g4⟩
      · rename_i hc hc2
        have := withL_sep r out ⟨mn x.f0 y.f0, mx x.f1 y.f1⟩ ho (Sep_weak (by omega) g4) (by show _ < mn _ _; unfold mn; split <;> omega) (by show mn _ _ < mx _ _; unfold mn mx; split <;> split <;> omega) (by show mx _ _ ≤ _; unfold mx; split <;> omega)
        refine ⟨this.1, Nat.le_trans this.2 (by simp <;> omega)⟩
theorem with_l0 (l : List S64) (hl : l.length < 1000) : ∀ (n i k : Nat) (out : List S64) (a b : Int), i + n = l.length → n < k → out.length ≤ i → sack_with.l0 k l out l (l.length : Int) (i : Int) a b = some (withL out (l.drop i) ⟨a, b⟩)
  | 0, i, k + 1, out, a, b, hi, _, ho => by
    unfold sack_with.l0
    rw [if_neg (by omega), if_pos (by omega), List.drop_eq_nil_of_le (by omega)]
    rfl
  | n + 1, i, k + 1, out, a, b, hi, hk, ho => by
    have hlt : i < l.length := by omega
    have hrd : rd_T64 l (i : Int) = l[i] := by unfold rd_T64; simp [hlt]
    have hw : wrap64 ((i : Int) + 1) = ((i + 1 : Nat) : Int) := by rw [w64 (by omega) (by omega)]; omega
    unfold sack_with.l0
    rw [if_pos (by omega), if_pos (by omega), if_pos (by omega), List.drop_eq_getElem_cons hlt, hrd, hw]
    unfold withL
    by_cases h1 : l[i].f1 < a
    · rw [if_pos h1, if_pos h1, if_pos (by omega)]
      exact with_l0 l hl n (i + 1) k (out ++ [l[i]]) a b (by omega) (by omega) (by simp <;> omega)
    · rw [if_neg h1, if_neg h1]
      by_cases h2 : b < l[i].f0
      · rw [if_pos h2, if_pos h2, if_pos (by omega)]
        simp only [Option.bind_some]
        rw [if_pos (by omega)]
        simp only [Option.bind_some, Int.toNat_natCast]
        rw [if_pos (by simp <;> omega), List.drop_eq_getElem_cons hlt]
      · rw [if_neg h2, if_neg h2]
        exact with_l0 l hl n (i + 1) k out _ _ (by omega) (by omega) (by omega)
/-! ### The scoreboard -/
def off (u : Int) (b : S53) : S64 := ⟨(b.f0 - u) % 4294967296, (b.f1 - u) % 4294967296⟩
def back (u : Int) (x : S64) : S53 := ⟨(u + x.f0 % 4294967296) % 4294967296, (u + x.f1 % 4294967296) % 4294967296⟩
theorem off_back {u : Int} {x : S64} (h0 : 0 ≤ x.f0) (h1 : x.f0 ≤ 300) (h2 : 0 ≤ x.f1) (h3 : x.f1 ≤ 300) : off u (back u x) = x := by
  obtain ⟨a, b⟩ := x
  simp only [off, back, S64.mk.injEq] at *
  constructor <;> omega
theorem size_eq (u : Int) (H : List S53) : sack_size.f u ((u + 300) % 4294967296) H = some 300 := by
  unfold sack_size.f
  congr 1
  omega
theorem check_l0 (u nx : Int) (H : List S53) (hn : nx = (u + 300) % 4294967296) (hH : H.length < 1000) : ∀ (n i k : Nat) (last : Int), i + n = H.length → n < k → Sep last ((H.drop i).map (off u)) → sack_Check.l0 k last H (H.length : Int) (i : Int) u nx H = some 0
  | 0, i, k + 1, last, hi, _, _ => by
    unfold sack_Check.l0
    rw [if_neg (by omega)]
  | n + 1, i, k + 1, last, hi, hk, hs => by
    have hlt : i < H.length := by omega
    have hrd : rd_T53 H (i : Int) = H[i] := by unfold rd_T53; simp [hlt]
    have hw : wrap64 ((i : Int) + 1) = ((i + 1 : Nat) : Int) := by rw [w64 (by omega) (by omega)]; omega
    rw [List.drop_eq_getElem_cons hlt] at hs
    simp only [List.map_cons, Sep, off] at hs
    unfold sack_Check.l0
    rw [if_pos (by omega), if_pos (by omega), if_pos (by omega), hrd, hw, if_neg (by omega), if_neg (by omega), hn, size_eq]
    simp only [Option.bind_some]
    rw [if_neg (by omega), ← hn]
    exact check_l0 u nx H hn hH n (i + 1) k _ (by omega) (by omega) hs.2.2.2
theorem check_ok (u nx : Int) (H : List S53) (hn : nx = (u + 300) % 4294967296) (hu : 0 ≤ u ∧ u < 4294967296) (hH : H.length ≤ 256) (k : Nat) (hk : 1000 ≤ k) (hs : Sep 0 (H.map (off u))) : sack_Check.f k u nx H = some 0 := by
  unfold sack_Check.f
  rw [if_neg (by omega)]
  have hd : seq_Less.f nx u = some false := by
    unfold seq_Less.f seq_Diff.f
    simp only [Option.bind_some]
    rw [show (nx - u) % 4294967296 = 300 from by omega, show wrap32 300 = 300 from by unfold wrap32; omega, w64 (by omega) (by omega)]
    rfl
  rw [hd]
  simp only [Option.bind_some]
  rw [if_neg (by decide)]
  exact check_l0 u nx H hn (by omega) H.length 0 k 0 (by omega) (by omega) hs
def OkB (u : Int) (b : S53) : Prop := 0 < (off u b).f0 ∧ (off u b).f0 < (off u b).f1 ∧ (off u b).f1 ≤ 300
theorem Sep_ok {u : Int} : ∀ {H : List S53} {lo : Int}, 0 ≤ lo → Sep lo (H.map (off u)) → ∀ b ∈ H, OkB u b
  | [], _, _, _, b, hb => by cases hb
  | y :: r, lo, h0, hs, b, hb => by
    simp only [List.map_cons, Sep] at hs
    rcases List.mem_cons.1 hb with rfl | hb
    · exact ⟨by omega, by omega, hs.2.2.1⟩
    · exact Sep_ok (by omega) hs.2.2.2 b hb
theorem add_l1 (u nx : Int) (all : List S64) (H : List S53) (hl : all.length < 1000) : ∀ (n i k : Nat) (out : List S53), i + n = all.length → n < k → out.length = i → Sep (top 0 (all.take i)) (all.drop i) → 0 ≤ top 0 (all.take i) → out = (all.take i).map (back u) → all.length ≤ 256 →
    sack_Add.l1 k 0 all (all.length : Int) (i : Int) u nx H u nx out = some (u, nx, all.map (back u), 0)
  | 0, i, k + 1, out, hi, _, ho, _, _, he, hb => by
    unfold sack_Add.l1
    rw [if_neg (by omega), if_neg (by omega), he, List.take_of_length_le (by omega)]
  | n + 1, i, k + 1, out, hi, hk, ho, hs, h0, he, hb => by
    have hlt : i < all.length := by omega
    have hrd : rd_T64 all (i : Int) = all[i] := by unfold rd_T64; simp [hlt]
    have hw : wrap64 ((i : Int) + 1) = ((i + 1 : Nat) : Int) := by rw [w64 (by omega) (by omega)]; omega
    have htk : all.take (i + 1) = all.take i ++ [all[i]] := by rw [List.take_succ_eq_append_getElem hlt]
    rw [List.drop_eq_getElem_cons hlt] at hs
    obtain ⟨g1, g2, g3, g4⟩ := hs
    unfold sack_Add.l1
    rw [if_pos (by omega), if_pos (by omega), if_pos (by omega), hrd, hw, if_pos (by omega)]
    unfold seq_Add.f
    simp only [Option.bind_some]
    rw [if_pos (by omega)]
    refine add_l1 u nx all H hl n (i + 1) k _ (by omega) (by omega) (by simp <;> omega) (by rw [htk, top_append]; exact g4) (by rw [htk, top_append]; omega) ?_ hb
    rw [htk, he, List.map_append]
    rfl
theorem add_l0 (u nx : Int) (H : List S53) (b : S53) (hn : nx = (u + 300) % 4294967296) (hH : H.length < 200) (hok : ∀ y ∈ H, OkB u y) (hbk : OkB u b) : ∀ (n i k : Nat) (all : List S64), i + n = H.length + 1 → 2 * n + 1000 ≤ k → Sep 0 all → all.length ≤ i →
    ∃ all' : List S64, Sep 0 all' ∧ all'.length ≤ H.length + 1 ∧ sack_Add.l0 k u [b] 0 all ((H.length : Int) + 1) (i : Int) u nx H = some (u, nx, all'.map (back u), 0)
  | 0, i, k + 1, all, hi, hk, hs, hl => by
    refine ⟨all, hs, by omega, ?_⟩
    unfold sack_Add.l0
    rw [if_neg (by omega)]
    exact add_l1 u nx all H (by omega) all.length 0 k [] (by omega) (by omega) rfl (by simpa [top] using hs) (by simp [top]) (by simp) (by omega)
  | n + 1, i, k + 2, all, hi, hk, hs, hl => by
    have hw : wrap64 ((i : Int) + 1) = ((i + 1 : Nat) : Int) := by rw [w64 (by omega) (by omega)]; omega
    have one : ∀ y : S53, OkB u y → sack_Add.j1 (k + 1) u [b] 0 all ((H.length : Int) + 1) (i : Int) u nx H y.f0 y.f1 = sack_Add.l0 k u [b] 0 (withL [] all ⟨mx ((y.f0 - u) % 4294967296) 0, (y.f1 - u) % 4294967296⟩) ((H.length : Int) + 1) ((i + 1 : Nat) : Int) u nx H := fun y hy => by
      simp only [OkB, off] at hy
      unfold sack_Add.j1
      rw [if_pos (by omega), hn, size_eq]
      simp only [Option.bind_some]
      rw [if_pos (by omega), if_pos (by omega), ← hn]
      unfold sack_with.f
      rw [show (0 : Int) = ((0 : Nat) : Int) from rfl, with_l0 all (by omega) all.length 0 k [] _ _ (by omega) (by omega) (by simp)]
      simp only [Option.bind_some, List.drop_zero, hw]
    have next : ∀ y : S53, OkB u y → ∃ all' : List S64, Sep 0 all' ∧ all'.length ≤ H.length + 1 ∧ sack_Add.j1 (k + 1) u [b] 0 all ((H.length : Int) + 1) (i : Int) u nx H y.f0 y.f1 = some (u, nx, all'.map (back u), 0) := fun y hy => by
      rw [one y hy]
      simp only [OkB, off] at hy
      have hws := withL_sep all [] ⟨mx ((y.f0 - u) % 4294967296) 0, (y.f1 - u) % 4294967296⟩ trivial (by simpa [top] using hs) (by show top 0 [] < mx _ _; simp only [top]; unfold mx; split <;> omega) (by show mx _ _ < (y.f1 - u) % 4294967296; unfold mx; split <;> omega) hy.2.2
      exact add_l0 u nx H b hn hH hok hbk n (i + 1) k _ (by omega) (by omega) hws.1 (by have := hws.2; simp at this; omega)
    unfold sack_Add.l0
    rw [if_pos (by omega)]
    by_cases hc : i < H.length
    · rw [if_pos (by omega), if_pos (by omega)]
      have hrd : rd_T53 H (i : Int) = H[i] := by unfold rd_T53; simp [hc]
      rw [hrd]
      exact next _ (hok _ (List.getElem_mem hc))
    · rw [if_neg (by omega), w64 (by omega) (by omega), if_pos (by omega), if_pos (by simp <;> omega)]
      have hrd : rd_T53 [b] ((i : Int) - (H.length : Int)) = b := by
        unfold rd_T53
        rw [show ((i : Int) - (H.length : Int)) = 0 from by omega]
        rfl
      rw [hrd]
      exact next _ hbk
theorem back_sep {u : Int} : ∀ {all : List S64} {lo : Int}, 0 ≤ lo → Sep lo all → Sep lo ((all.map (back u)).map (off u))
  | [], _, _, _ => trivial
  | y :: r, lo, h0, hs => by
    obtain ⟨g1, g2, g3, g4⟩ := hs
    simp only [List.map_cons]
    rw [off_back (by omega) (by omega) (by omega) (by omega)]
    exact ⟨g1, g2, g3, back_sep (by omega) g4⟩
theorem add_ok (u nx : Int) (H : List S53) (b : S53) (hn : nx = (u + 300) % 4294967296) (hu : 0 ≤ u ∧ u < 4294967296) (hH : H.length < 200) (hs : Sep 0 (H.map (off u))) (hb : OkB u b) (k : Nat) (hk : 2000 ≤ k) :
    ∃ H' : List S53, Sep 0 (H'.map (off u)) ∧ H'.length ≤ H.length + 1 ∧ sack_Add.f k u nx H u [b] = some (u, nx, H', 0) := by
  obtain ⟨all, h1, h2, h3⟩ := add_l0 u nx H b hn hH (Sep_ok (by omega) hs) hb (H.length + 1) 0 k [] (by omega) (by omega) trivial (by simp)
  refine ⟨all.map (back u), back_sep (by omega) h1, by simpa using h2, ?_⟩
  unfold sack_Add.f
  rw [check_ok u nx H hn hu (by omega) k (by omega) hs]
  simp only [Option.bind_some]
  rw [if_pos trivial, if_neg (by simp)]
  rw [show sack_size.f u nx H = some 300 from by rw [hn]; exact size_eq u H]
  simp only [Option.bind_some]
  rw [if_neg (by simp), w64 (by simp <;> omega) (by simp <;> omega)]
  rw [show (u - u) % 4294967296 = 0 from by simp]
  exact h3
theorem held_l0 (u nx : Int) (l : List S53) (hn : nx = (u + 300) % 4294967296) (hu : 0 ≤ u ∧ u < 4294967296) (hl : l.length ≤ 20) (hok : ∀ y ∈ l, OkB u y) : ∀ (n i k : Nat) (H : List S53), i + n = l.length → n + 2001 ≤ k → Sep 0 (H.map (off u)) → H.length ≤ i →
    ∃ H' : List S53, Sep 0 (H'.map (off u)) ∧ H'.length ≤ l.length ∧ patchbaykeep3_held.l0 k l (i : Int) u nx H = some (u, nx, H', 0)
  | 0, i, k + 1, H, hi, _, hs, hH => by
    refine ⟨H, hs, by omega, ?_⟩
    unfold patchbaykeep3_held.l0
    rw [if_neg (by omega)]
  | n + 1, i, k + 1, H, hi, hk, hs, hH => by
    have hlt : i < l.length := by omega
    have hw : wrap64 ((i : Int) + 1) = ((i + 1 : Nat) : Int) := by rw [w64 (by omega) (by omega)]; omega
    have hsl : (l.take (wrap64 ((i : Int) + 1)).toNat).drop (i : Int).toNat = [l[i]] := by
      rw [hw]
      simp only [Int.toNat_natCast]
      rw [List.take_succ_eq_append_getElem hlt, List.drop_append_of_le_length (by simp <;> omega), List.drop_eq_nil_of_le (by simp <;> omega)]
      rfl
    obtain ⟨H1, g1, g2, g3⟩ := add_ok u nx H l[i] hn hu (by omega) hs (hok _ (List.getElem_mem hlt)) k (by omega)
    obtain ⟨H', r1, r2, r3⟩ := held_l0 u nx l hn hu hl hok n (i + 1) k H1 (by omega) (by omega) g1 (by omega)
    refine ⟨H', r1, r2, ?_⟩
    unfold patchbaykeep3_held.l0
    rw [if_pos (by omega), if_pos (by omega), if_pos (by rw [hw]; omega), if_pos (by rw [hw]; omega), hsl, g3]
    simp only [Option.bind_some]
    rw [if_pos trivial, hw]
    exact r3
theorem blocks_l0 (u : Int) (at' sz : List Int) : ∀ (n i k : Nat) (out : List S53), i + n = 12 → 2 * n + 10 ≤ k → out.length ≤ i → (∀ y ∈ out, OkB u y) → (0 ≤ u ∧ u < 4294967296) →
    ∃ l : List S53, l.length ≤ 12 ∧ (∀ y ∈ l, OkB u y) ∧ patchbaykeep3_blocks.l0 k u 300 at' sz out (i : Int) = some l
  | n, i, k + 2, out, hi, hk, ho, hok, hu => by
    have stop : patchbaykeep3_blocks.j1 (k + 1) u 300 at' sz out (i : Int) false = some out := by
      unfold patchbaykeep3_blocks.j1
      rw [if_neg (by decide)]
    unfold patchbaykeep3_blocks.l0
    by_cases h1 : (i : Int) < (at'.length : Int)
    · rw [if_pos h1]
      by_cases h2 : (i : Int) < (sz.length : Int)
      · rw [if_pos h2]
        by_cases h3 : (i : Int) < 12
        · rw [decide_eq_true h3]
          match n, hi with
          | 0, hi => omega
          | n + 1, hi =>
            have hw : wrap64 ((i : Int) + 1) = ((i + 1 : Nat) : Int) := by rw [w64 (by omega) (by omega)]; omega
            obtain ⟨r, hr, hr0, hr1⟩ := rest_some (rd at' (i : Int)) 300 (by omega) (by omega)
            obtain ⟨q, hq, hq0, hq1⟩ := rest_some (rd sz (i : Int)) 50 (by omega) (by omega)
            unfold patchbaykeep3_blocks.j1
            rw [if_pos rfl, if_pos (by omega), if_pos h1, hr]
            simp only [Option.bind_some]
            rw [if_pos h2, hq]
            simp only [Option.bind_some]
            rw [w64 (x := 1 + r) (by omega) (by omega), w64 (x := 1 + r + 1) (by omega) (by omega), w64 (x := 1 + r + 1 + q) (by omega) (by omega), hw]
            by_cases h4 : 1 + r < mn (1 + r + 1 + q) 300
            · rw [if_pos h4]
              unfold seq_Add.f
              simp only [Option.bind_some]
              rw [if_pos (by omega)]
              have hm : mn (1 + r + 1 + q) 300 ≤ 300 := by unfold mn; split <;> omega
              refine blocks_l0 u at' sz n (i + 1) k _ (by omega) (by omega) (by simp <;> omega) ?_ hu
              intro y hy
              rcases List.mem_append.1 hy with hy | hy
              · exact hok y hy
              · obtain rfl := List.mem_singleton.1 hy
                have e := off_back (u := u) (x := ⟨1 + r, mn (1 + r + 1 + q) 300⟩) (by show 0 ≤ 1 + r; omega) (by show 1 + r ≤ 300; omega) (by show 0 ≤ mn _ _; omega) hm
                unfold OkB
                rw [show (⟨(u + (1 + r) % 4294967296) % 4294967296, (u + mn (1 + r + 1 + q) 300 % 4294967296) % 4294967296⟩ : S53) = back u ⟨1 + r, mn (1 + r + 1 + q) 300⟩ from rfl, e]
                exact ⟨by show 0 < 1 + r; omega, h4, hm⟩
            · rw [if_neg h4]
              exact blocks_l0 u at' sz n (i + 1) k out (by omega) (by omega) (by omega) hok hu
        · rw [decide_eq_false h3, stop]
          exact ⟨out, by omega, hok, rfl⟩
      · rw [if_neg h2, stop]
        exact ⟨out, by omega, hok, rfl⟩
    · rw [if_neg h1, stop]
      exact ⟨out, by omega, hok, rfl⟩
/-! ### The choice -/
def inB (n : Int) (b : S53) : Bool := decide ((n - b.f0) % 4294967296 < (b.f1 - b.f0) % 4294967296)
theorem diff_ok {u : Int} {b : S53} (h : OkB u b) : seq_Diff.f b.f1 b.f0 = some ((b.f1 - b.f0) % 4294967296) ∧ 0 < (b.f1 - b.f0) % 4294967296 ∧ (b.f1 - b.f0) % 4294967296 ≤ 300 := by
  simp only [OkB, off] at h
  have h1 : (b.f1 - b.f0) % 4294967296 = (b.f1 - u) % 4294967296 - (b.f0 - u) % 4294967296 := by omega
  refine ⟨?_, by omega, by omega⟩
  unfold seq_Diff.f
  congr 1
  have : wrap32 ((b.f1 - b.f0) % 4294967296) = (b.f1 - b.f0) % 4294967296 := by unfold wrap32; omega
  rw [this, w64 (by omega) (by omega)]
theorem has_l0 (u n : Int) (H : List S53) (hH : H.length < 1000) (hok : ∀ y ∈ H, OkB u y) : ∀ (m i k : Nat), i + m = H.length → m < k → patchbaykeep3_has.l0 k n H (H.length : Int) (i : Int) = some ((H.drop i).any (inB n))
  | 0, i, k + 1, hi, _ => by
    unfold patchbaykeep3_has.l0
    rw [if_neg (by omega), List.drop_eq_nil_of_le (by omega)]
    rfl
  | m + 1, i, k + 1, hi, hk => by
    have hlt : i < H.length := by omega
    have hrd : rd_T53 H (i : Int) = H[i] := by unfold rd_T53; simp [hlt]
    have hw : wrap64 ((i : Int) + 1) = ((i + 1 : Nat) : Int) := by rw [w64 (by omega) (by omega)]; omega
    unfold patchbaykeep3_has.l0
    rw [if_pos (by omega), if_pos (by omega), if_pos (by omega), hrd, (diff_ok (hok _ (List.getElem_mem hlt))).1, hw, List.drop_eq_getElem_cons hlt]
    unfold seq_In.f
    simp only [Option.bind_some, List.any_cons]
    by_cases hc : inB n H[i] = true
    · rw [if_pos (by exact hc), hc]; rfl
    · rw [if_neg (by exact hc), Bool.eq_false_iff.2 hc, Bool.false_or]
      exact has_l0 u n H hH hok m (i + 1) k (by omega) (by omega)
theorem has_ok (u n : Int) (H : List S53) (hH : H.length < 1000) (hok : ∀ y ∈ H, OkB u y) (k : Nat) (hk : 1000 ≤ k) : patchbaykeep3_has.f k H n = some (H.any (inB n)) := by
  have := has_l0 u n H hH hok H.length 0 k (by omega) (by omega)
  simpa [patchbaykeep3_has.f] using this
/-- The others, in the order of the list, while there is room. -/
def pick (j : Int) : Nat → List S53 → List S53 → List S53
  | _, out, [] => out
  | i, out, b :: r => if (i : Int) = j then pick j (i + 1) out r else if out.length < 3 then pick j (i + 1) (out ++ [b]) r else pick j (i + 1) out r
theorem choose_l2 (j : Int) (H : List S53) (hH : H.length < 1000) : ∀ (m i k : Nat) (out : List S53), i + m = H.length → m < k → out.length ≤ i + 1 → sack_Choose.l2 k j out H (H.length : Int) (i : Int) = some (pick j i out (H.drop i), 0)
  | 0, i, k + 1, out, hi, _, ho => by
    unfold sack_Choose.l2
    rw [if_neg (by omega), List.drop_eq_nil_of_le (by omega)]
    rfl
  | m + 1, i, k + 1, out, hi, hk, ho => by
    have hlt : i < H.length := by omega
    have hrd : rd_T53 H (i : Int) = H[i] := by unfold rd_T53; simp [hlt]
    have hw : wrap64 ((i : Int) + 1) = ((i + 1 : Nat) : Int) := by rw [w64 (by omega) (by omega)]; omega
    unfold sack_Choose.l2
    rw [if_pos (by omega), if_pos (by omega), if_pos (by omega), hrd, hw, List.drop_eq_getElem_cons hlt]
    unfold pick
    by_cases h1 : (i : Int) = j
    · rw [if_pos h1, if_pos h1]
      exact choose_l2 j H hH m (i + 1) k out (by omega) (by omega) (by omega)
    · rw [if_neg h1, if_neg h1]
      by_cases h2 : out.length < 3
      · rw [if_pos (by omega), if_pos (by omega), if_pos h2]
        exact choose_l2 j H hH m (i + 1) k _ (by omega) (by omega) (by simp <;> omega)
      · rw [if_neg (by omega), if_neg h2]
        exact choose_l2 j H hH m (i + 1) k out (by omega) (by omega) (by omega)
theorem pick_mem (j : Int) (H : List S53) : ∀ (r : List S53) (i : Nat) (out : List S53), (∀ y ∈ out, y ∈ H) → (∀ y ∈ r, y ∈ H) → ∀ y ∈ pick j i out r, y ∈ H
  | [], i, out, ho, _ => ho
  | b :: r, i, out, ho, hr => by
    unfold pick
    split
    · exact pick_mem j H r (i + 1) out ho fun y hy => hr y (List.mem_cons_of_mem _ hy)
    · split
      · exact pick_mem j H r (i + 1) _ (fun y hy => by
          rcases List.mem_append.1 hy with h | h
          · exact ho y h
          · obtain rfl := List.mem_singleton.1 h; exact hr _ (List.mem_cons_self ..)) fun y hy => hr y (List.mem_cons_of_mem _ hy)
      · exact pick_mem j H r (i + 1) out ho fun y hy => hr y (List.mem_cons_of_mem _ hy)
theorem pick_head (j : Int) : ∀ (r : List S53) (i : Nat) (b : S53) (out : List S53), ∃ t, pick j i (b :: out) r = b :: t
  | [], i, b, out => ⟨out, rfl⟩
  | c :: r, i, b, out => by
    unfold pick
    split
    · exact pick_head j r (i + 1) b out
    · split
      · exact pick_head j r (i + 1) b (out ++ [c])
      · exact pick_head j r (i + 1) b out
/-- How many are chosen: j lies before i, or at or behind it, or nowhere. -/
theorem pick_len (j : Int) : ∀ (r : List S53) (i : Nat) (out : List S53), out.length ≤ 3 → (pick j i out r).length = min 3 (out.length + r.length - if (i : Int) ≤ j ∧ j < (i : Int) + r.length then 1 else 0)
  | [], i, out, ho => by
    unfold pick
    rw [if_neg (by simp <;> omega)]
    simp; omega
  | b :: r, i, out, ho => by
    unfold pick
    by_cases h1 : (i : Int) = j
    · rw [if_pos h1, pick_len j r (i + 1) out ho, if_neg (by omega), if_pos (by simp <;> omega)]
      simp
    · rw [if_neg h1]
      have hcase : ((((i + 1 : Nat) : Int) ≤ j ∧ j < ((i + 1 : Nat) : Int) + r.length)) ↔ ((i : Int) ≤ j ∧ j < (i : Int) + (b :: r).length) := by simp; omega
      by_cases h2 : out.length < 3
      · rw [if_pos h2, pick_len j r (i + 1) _ (by simp <;> omega)]
        simp only [hcase, List.length_append, List.length_cons, List.length_nil]
        congr 1
        omega
      · rw [if_neg h2, pick_len j r (i + 1) out ho]
        simp only [hcase, List.length_cons]
        split <;> omega
/-- The place of the block with the number, or -1. -/
def firstAt (n : Int) : Nat → List S53 → Int
  | _, [] => -1
  | i, b :: r => if inB n b then (i : Int) else firstAt n (i + 1) r
theorem firstAt_spec (n : Int) : ∀ (r : List S53) (i : Nat), (firstAt n i r = -1 ∧ r.any (inB n) = false) ∨ ∃ m : Nat, ∃ h : m < r.length, firstAt n i r = ((i + m : Nat) : Int) ∧ inB n r[m] = true
  | [], i => .inl ⟨rfl, rfl⟩
  | b :: r, i => by
    unfold firstAt
    by_cases h : inB n b = true
    · rw [if_pos h]
      exact .inr ⟨0, by simp, by simp, h⟩
    · rw [if_neg h]
      rcases firstAt_spec n r (i + 1) with ⟨h1, h2⟩ | ⟨m, h1, h2, h3⟩
      · exact .inl ⟨h1, by simp only [List.any_cons, Bool.eq_false_iff.2 h, h2, Bool.or_self]⟩
      · exact .inr ⟨m + 1, by simp; omega, by rw [h2]; omega, by simpa using h3⟩
def startL (H : List S53) (j : Int) : List S53 := if 0 ≤ j then [rd_T53 H j] else []
theorem choose_j2 (H : List S53) (hH : H.length < 900) (j : Int) (hj : j < H.length) (k : Nat) (hk : 1000 ≤ k) : sack_Choose.j2 k H j = some (pick j 0 (startL H j) H, 0) := by
  obtain ⟨k, rfl⟩ : ∃ k', k = k' + 1 + 1 := ⟨k - 2, by omega⟩
  · have go : ∀ out : List S53, out.length ≤ 1 → sack_Choose.j3 (k + 1) H j out = some (pick j 0 out H, 0) := fun out ho => by
      unfold sack_Choose.j3
      have := choose_l2 j H (by omega) H.length 0 k out (by omega) (by omega) (by omega)
      simpa using this
    rw [sack_Choose.j2]
    unfold startL
    by_cases h : 0 ≤ j
    · rw [if_pos (by exact h), if_pos h, if_pos hj, if_pos (by simp), if_pos h]
      exact go _ (by simp)
    · rw [if_neg (by exact h), if_neg h]
      exact go _ (by simp)
theorem choose_l1 (n : Int) (H : List S53) (hH : H.length < 900) : ∀ (m i k : Nat), i + m = H.length → m + 1001 ≤ k → sack_Choose.l1 k H n (-1) H (H.length : Int) (i : Int) = some (pick (firstAt n i (H.drop i)) 0 (startL H (firstAt n i (H.drop i))) H, 0)
  | 0, i, k + 1, hi, hk => by
    unfold sack_Choose.l1
    rw [if_neg (by omega), List.drop_eq_nil_of_le (by omega)]
    exact choose_j2 H hH (-1) (by omega) k (by omega)
  | m + 1, i, k + 1, hi, hk => by
    have hlt : i < H.length := by omega
    have hrd : rd_T53 H (i : Int) = H[i] := by unfold rd_T53; simp [hlt]
    have hw : wrap64 ((i : Int) + 1) = ((i + 1 : Nat) : Int) := by rw [w64 (by omega) (by omega)]; omega
    unfold sack_Choose.l1
    rw [if_pos (by omega), if_pos (by omega), if_pos (by omega), hrd, hw, List.drop_eq_getElem_cons hlt]
    unfold seq_In.f firstAt
    simp only [Option.bind_some]
    by_cases hc : inB n H[i] = true
    · rw [if_pos (by exact hc), if_pos hc]
      exact choose_j2 H hH (i : Int) (by omega) k (by omega)
    · rw [if_neg (by exact hc), if_neg hc]
      exact choose_l1 n H hH m (i + 1) k (by omega) (by omega)
theorem choose_l0 (u n : Int) (H : List S53) (hH : H.length < 900) (hok : ∀ y ∈ H, OkB u y) : ∀ (m i k : Nat), i + m = H.length → m + 2100 ≤ k → sack_Choose.l0 k H n H (H.length : Int) (i : Int) = some (pick (firstAt n 0 H) 0 (startL H (firstAt n 0 H)) H, 0)
  | 0, i, k + 1, hi, hk => by
    unfold sack_Choose.l0
    rw [if_neg (by omega)]
    have := choose_l1 n H hH H.length 0 k (by omega) (by omega)
    simpa using this
  | m + 1, i, k + 1, hi, hk => by
    have hlt : i < H.length := by omega
    have hrd : rd_T53 H (i : Int) = H[i] := by unfold rd_T53; simp [hlt]
    have hw : wrap64 ((i : Int) + 1) = ((i + 1 : Nat) : Int) := by rw [w64 (by omega) (by omega)]; omega
    have hd := diff_ok (hok _ (List.getElem_mem hlt))
    unfold sack_Choose.l0
    rw [if_pos (by omega), if_pos (by omega), if_pos (by omega), hrd, hw, hd.1]
    simp only [Option.bind_some]
    rw [if_neg (by omega)]
    exact choose_l0 u n H hH hok m (i + 1) k (by omega) (by omega)
theorem fact_ok : patchbaykeep3_sackFact.f 4000 = some true := by decide +kernel
/-! ### The law -/
theorem loop_ok (u n x0 : Int) (H l : List S53) (hH : H.length ≤ 12) (hok : ∀ y ∈ H, OkB u y) (hl : ∀ y ∈ l, y ∈ H) (hll : l.length ≤ 3) (nx : Int) (hend : ∀ k : Nat, 1001 ≤ k → patchbaykeep3_SackChooses.l0 k n l (l.length : Int) u nx H = some true) :
    ∀ (m i k : Nat), i + m = l.length → m + 1001 ≤ k → patchbaykeep3_SackChooses.l0 k n l (i : Int) u nx H = some true
  | 0, i, k, hi, hk => by
    rw [show i = l.length from by omega]
    exact hend k (by omega)
  | m + 1, i, k + 1, hi, hk => by
    have hlt : i < l.length := by omega
    have hrd : rd_T53 l (i : Int) = l[i] := by unfold rd_T53; simp [hlt]
    have hw : wrap64 ((i : Int) + 1) = ((i + 1 : Nat) : Int) := by rw [w64 (by omega) (by omega)]; omega
    have hmem := hl _ (List.getElem_mem hlt)
    have hany : H.any (inB l[i].f0) = true := by
      refine List.any_eq_true.2 ⟨l[i], hmem, ?_⟩
      have := diff_ok (hok _ hmem)
      unfold inB
      rw [show (l[i].f0 - l[i].f0) % 4294967296 = 0 from by simp]
      simpa using this.2.1
    unfold patchbaykeep3_SackChooses.l0
    rw [if_pos (by omega), if_pos (by omega), hrd, hw, has_ok u _ H (by omega) hok k (by omega), hany]
    simp only [Option.bind_some]
    rw [if_pos trivial]
    exact loop_ok u n x0 H l hH hok hl hll nx hend m (i + 1) k (by omega) (by omega)
end CSackChooses
open CSackChooses
theorem SackChooses : patchbaykeep3_SackChooses.Pure := by
  intro u at' sz last wu _ _ _ _ _ _ _
  have hu : 0 ≤ u ∧ u < 4294967296 := by
    simp only [Lit.wf, IntKind.min, IntKind.max, IntKind.signed, IntKind.bits, Bool.and_eq_true, decide_eq_true_eq] at wu
    simp at wu
    omega
  obtain ⟨K, hK⟩ : ∃ K : Nat, K = 3999 := ⟨_, rfl⟩
  refine ⟨K + 1, ?_⟩
  have hfact : patchbaykeep3_sackFact.f (K + 1) = some true := by rw [hK]; exact fact_ok
  obtain ⟨l, hl1, hl2, hl3⟩ := blocks_l0 u at' sz 12 0 (K + 1) [] rfl (by omega) (by simp) (fun _ h => by cases h) hu
  obtain ⟨H, hH1, hH2, hH3⟩ := held_l0 u ((u + 300) % 4294967296) l rfl hu (by omega) hl2 l.length 0 (K + 1) [] (by omega) (by omega) trivial (by simp)
  obtain ⟨r, hr, hr0, hr1⟩ := rest_some last 300 (by omega) (by omega)
  have hok := Sep_ok (u := u) (by omega) hH1
  unfold patchbaykeep3_SackChooses.f
  rw [hfact]
  simp only [Option.bind_some]
  rw [if_pos trivial]
  rw [show seq_Add.f u 300 = some ((u + 300) % 4294967296) from rfl]
  simp only [Option.bind_some]
  rw [show patchbaykeep3_blocks.f (K + 1) u 300 at' sz = some l from hl3]
  simp only [Option.bind_some]
  rw [show patchbaykeep3_held.f (K + 1) u ((u + 300) % 4294967296) [] l = some (u, (u + 300) % 4294967296, H, 0) from hH3]
  simp only [Option.bind_some]
  rw [hr]
  simp only [Option.bind_some]
  obtain ⟨n, hn⟩ : ∃ n, n = (u + r % 4294967296) % 4294967296 := ⟨_, rfl⟩
  rw [show seq_Add.f u r = some n from by rw [hn]; rfl]
  simp only [Option.bind_some]
  have hch := choose_l0 u n H (by omega) hok H.length 0 (K + 1) (by omega) (by omega)
  obtain ⟨j, hj⟩ : ∃ j, j = firstAt n 0 H := ⟨_, rfl⟩
  rw [← hj] at hch
  obtain ⟨p, hp⟩ : ∃ p, p = pick j 0 (startL H j) H := ⟨_, rfl⟩
  rw [← hp] at hch
  rw [show sack_Choose.f (K + 1) H n = some (p, 0) from by unfold sack_Choose.f; rw [if_neg (by omega)]; exact hch]
  simp only [Option.bind_some]
  rw [if_pos trivial, if_pos trivial]
  have hspec := firstAt_spec n H 0
  rw [← hj] at hspec
  have hlen : p.length = min H.length 3 := by
    rw [hp, pick_len j H 0 (startL H j) (by unfold startL; split <;> simp)]
    rcases hspec with ⟨h1, _⟩ | ⟨m, h1, h2, _⟩
    · rw [h1, if_neg (by omega)]
      simp [startL]; omega
    · rw [h2]
      rw [if_pos (by omega)]
      simp [startL]; omega
  have hmem : ∀ y ∈ p, y ∈ H := by
    rw [hp]
    refine pick_mem j H H 0 _ ?_ (fun _ h => h)
    intro y hy
    unfold startL at hy
    split at hy
    · obtain rfl := List.mem_singleton.1 hy
      rcases hspec with ⟨h1, _⟩ | ⟨m, h1, h2, _⟩
      · omega
      · rw [h2]
        unfold rd_T53
        simp [h1]
    · cases hy
  rw [patchbaykeep3_SackChooses.j0]
  rw [if_neg (by
    simp only [bne_iff_ne, ne_eq, Decidable.not_not]
    rw [hlen]
    unfold mn
    split <;> omega)]
  refine loop_ok u n 0 H p (by omega) hok hmem (by omega) _ ?_ p.length 0 K (by omega) (by omega)
  intro k hk
  match k, hk with
  | k + 1, hk =>
    unfold patchbaykeep3_SackChooses.l0
    rw [if_neg (by omega)]
    rw [has_ok u n H (by omega) hok k (by omega)]
    simp only [Option.bind_some]
    rcases hspec with ⟨h1, h2⟩ | ⟨m, h1, h2, h3⟩
    · rw [h2, if_neg (by decide)]
    · have hany : H.any (inB n) = true := List.any_eq_true.2 ⟨H[m], List.getElem_mem h1, h3⟩
      rw [hany, if_pos rfl]
      have hst : startL H j = [H[m]] := by
        unfold startL
        rw [if_pos (by omega), h2]
        unfold rd_T53
        simp [h1]
      obtain ⟨t, ht⟩ := pick_head j H 0 H[m] []
      rw [hst, ht] at hp
      rw [if_pos (by rw [hp]; simp; omega), hp]
      simp only [List.take_succ_cons, List.take_zero]
      rw [has_ok u n [H[m]] (by simp) (fun y hy => by obtain rfl := List.mem_singleton.1 hy; exact hok _ (List.getElem_mem h1)) k (by omega)]
      simp [h3]
end Go.Proofs.Ytopjfkcoknenfaa.Pure
