/- slices.Insert of one element into a row of chances of one's own. slices.BinarySearchFunc over chances. sample.in and Few.Put, in general. -/
import Derived.Test.YtdlnfmakfnggpaaDoorXPn
import Derived.Laws.CopyOwn
import Derived.Laws.CopyRow
import Derived.Lib.AppendZeros
import Derived.Lib.AppendZerosOnto
import Derived.Lib.Overlaps
import Derived.Lib.Walk
import Derived.Laws.Externs
import Derived.Deep.RegionLaw
import Derived.Shelf.Spec.SlicesInsert
import Derived.Test.YtdlnfmakfnggpaaDoorPr0d
import Derived.Deep.LoopGhost
import Derived.LoopTactic
namespace Go.Proofs.YtdlnfmakfnggpaaDoor.Pr
open Go.RowKit Go.Lib Go.Proofs.YtdlnfmakfnggpaaDoorW.PrintWords
set_option linter.unusedVariables false
set_option linter.unusedSimpArgs false
/-- copy of chances over a row that is known whole. -/
theorem copy3 {W : World} {g off dLen dCap sLen sCap : Nat} {ad : Addr} {cur : Array Value} {cs : List Value} {ty : TypeId} (hh : W.heap[g]? = some (.cells cur 101 (0, 0))) (hl : cs.length = Nat.min sLen dLen * 3)
    (hsrc : ∀ j v, cs[j]? = some v → W.cell? (ad.add j) = some v) (hfit : off + cs.length ≤ cur.size) (h1 : ∀ u ∈ cs, u.oneCell' = true) :
    (Builtin.copy_ #[94, 94] ty #[.slice (some ⟨g, off, none⟩) dLen dCap, .slice (some ad) sLen sCap]).run Tryd.prog W = .ok (goInt (Nat.min sLen dLen)) (W.setRow g (cur.toList.take off ++ cs ++ cur.toList.drop (off + cs.length)).toArray) := by
  obtain ⟨i0, hi, hzz⟩ := Option.map_eq_some_iff.1 info101'
  simp only [Prod.mk.injEq] at hzz
  obtain ⟨_, hz1, _⟩ := hzz
  have hld := run_loadCells_list (P := Tryd.prog) W ad cs hsrc
  rw [hl] at hld
  have hst := run_storeCells_at Tryd.prog g off 101 cs 0 cur W hh (by simpa using hfit) h1
  simp [Builtin.copy_, run_underlying Tryd.underlying94, Builtin.lenOf, Builtin.firstCells, sizeOf, typeInfo, hi, hz1, hld, hst]
/-- A row of chances that is known whole: its cells, those of its elements. -/
def RowAt (W : World) (g n cap : Nat) (cs : List Value) (cur : Array Value) : Prop :=
  W.heap[g]? = some (.cells cur 101 (0, 0)) ∧ cur.size = cap * 3 ∧ n ≤ cap ∧ cap ≤ 9223372036854775807 ∧ cs.length = n * 3 ∧ cur.toList.take (n * 3) = cs ∧ ∀ u ∈ cs, u.oneCell' = true
def InsAt (w : World) (g n : Nat) (cs : List Value) (e : Ending) (w' : World) : Prop :=
  ∃ g' cap' cur', e = .returned (.slice (some ⟨g', 0, none⟩) (n + 1) cap') ∧ RowAt w' g' (n + 1) cap' cs cur' ∧ (g' = g ∨ w.heap.size ≤ g') ∧ w.grownBy w' (some g)
theorem cell_row3 {W : World} {g : Nat} {cur : Array Value} {t : Nat} (h : W.heap[g]? = some (.cells cur t (0, 0))) (j : Nat) (v : Value) (hj : cur.toList[j]? = some v) : W.cell? ⟨g, j, none⟩ = some v :=
  (cell_of_row _ _ _ _ _ _ h).trans (by simpa using hj)
set_option maxHeartbeats 4000000 in
set_option maxRecDepth 100000 in
theorem insert_shift (g n cap i : Nat) (cs : List Value) (cur : Array Value) (b : Nat) (x0 x1 x2 : Value) (w : World) (hR : RowAt w g n cap cs cur) (hi : i < n) (hroom : n + 1 ≤ cap) (hb : w.heap[b]? = some (.cells #[x0, x1, x2] 101 (0, 0))) (hne : b ≠ g)
    (ho : x0.oneCell' = true ∧ x1.oneCell' = true ∧ x2.oneCell' = true) :
    Calls Tryd.prog 73 #[.slice (some ⟨g, 0, none⟩) n cap, .int .i64 i, .slice (some ⟨b, 0, none⟩) 1 1] w (InsAt w g n (cs.take (i * 3) ++ [x0, x1, x2] ++ cs.drop (i * 3))) := by
  obtain ⟨hh, hsz, hnc, hcm, hcl, htk, hone⟩ := hR
  have hz2 : ((i : Int) == (n : Int)) = false := by have : ¬ (i : Int) = (n : Int) := by omega
                                                    simpa using this
  have hov : ∀ off lb cb, (callFunc 86 #[.slice (some ⟨b, 0, none⟩) 1 1, .slice (some ⟨g, off, none⟩) lb cb]).run Tryd.prog w = .ok (.value (.bool false)) w := fun off lb cb => by
    rw [run_callFunc_extern Tryd.func86 (by kernel_rfl) (by kernel_rfl) (by kernel_rfl) (e := Extern.SlicesOverlaps.overlaps #[94, 94] #[4]) (by kernel_rfl),
      Lib.run_overlaps_apart w 94 4 101 Tryd.underlying94 3 (fun w => by kernel_rfl) ⟨b, 0, none⟩ ⟨g, off, none⟩ 1 1 lb cb hne 101 101 3 (cap * 3) (by simp [World.shape?, hb]) (by simp [World.shape?, hh, hsz]) (by omega) (blk_frozen hb 0) (blk_frozen hb 3)]
    rfl
  have hcurl : cur.toList.length = cap * 3 := by rw [Array.length_toList]; exact hsz
  obtain ⟨D, hD⟩ : ∃ D, D = cs.drop (i * 3) := ⟨_, rfl⟩
  have hDl : D.length = (n - i) * 3 := by rw [hD, List.length_drop, hcl]; omega
  have hDc : ∀ j v, D[j]? = some v → cur.toList[i * 3 + j]? = some v := fun j v hj => by
    have hjl := (List.getElem?_eq_some_iff.1 hj).1
    rw [hD, List.getElem?_drop, ← htk, List.getElem?_take_of_lt (by omega)] at hj
    exact hj
  have hDo : ∀ u ∈ D, u.oneCell' = true := fun u hu => by
    exact hone _ (List.mem_of_mem_drop (by rw [hD] at hu; exact hu))
  obtain ⟨X1, hX1⟩ : ∃ X1, X1 = (cur.toList.take ((i + 1) * 3) ++ D ++ cur.toList.drop ((i + 1) * 3 + D.length)).toArray := ⟨_, rfl⟩
  have hX1l : X1.size = cap * 3 := by rw [hX1]; simp only [List.size_toArray, List.length_append, List.length_take, List.length_drop, hcurl, hDl]; omega
  obtain ⟨W1, hW1⟩ : ∃ W1, W1 = w.drew.setRow g X1 := ⟨_, rfl⟩
  have hcp1 : ∀ ty dc sc, (Builtin.copy_ #[94, 94] ty #[.slice (some ⟨g, (i + 1) * 3, none⟩) (n - i) dc, .slice (some ⟨g, i * 3, none⟩) (n + 1 - i) sc]).run Tryd.prog w.drew = .ok (goInt ((n - i : Nat) : Int)) W1 := fun ty dc sc => by
    have hm : Nat.min (n + 1 - i) (n - i) = n - i := by simp only [Nat.min_def]; split <;> omega
    have h := copy3 (W := w.drew) (g := g) (off := (i + 1) * 3) (dLen := n - i) (dCap := dc) (sLen := n + 1 - i) (sCap := sc) (ad := ⟨g, i * 3, none⟩) (cur := cur) (cs := D) (ty := ty) hh (by rw [hm]; exact hDl)
      (fun j v hj => by rw [Addr.add_lit]; exact cell_row3 (W := w.drew) hh _ _ (hDc j v hj)) (by rw [hDl, hsz]; omega) hDo
    rw [hm] at h
    rw [hW1, hX1]
    exact h
  have hh1 : W1.heap[g]? = some (.cells X1 101 (0, 0)) := by rw [hW1]; exact setRow_heap w.drew g cur X1 101 (0, 0) hh
  have hb1 : W1.heap[b]? = some (.cells #[x0, x1, x2] 101 (0, 0)) := by rw [hW1]; exact (setRow_other w.drew g b X1 hne).trans hb
  obtain ⟨X2, hX2⟩ : ∃ X2, X2 = (X1.toList.take (i * 3) ++ [x0, x1, x2] ++ X1.toList.drop (i * 3 + 3)).toArray := ⟨_, rfl⟩
  obtain ⟨W2, hW2⟩ : ∃ W2, W2 = W1.setRow g X2 := ⟨_, rfl⟩
  have hcp2 : ∀ ty dc, (Builtin.copy_ #[94, 94] ty #[.slice (some ⟨g, i * 3, none⟩) (n + 1 - i) dc, .slice (some ⟨b, 0, none⟩) 1 1]).run Tryd.prog W1 = .ok (goInt 1) W2 := fun ty dc => by
    have hm : Nat.min 1 (n + 1 - i) = 1 := by simp only [Nat.min_def]; split <;> omega
    have h := copy3 (W := W1) (g := g) (off := i * 3) (dLen := n + 1 - i) (dCap := dc) (sLen := 1) (sCap := 1) (ad := ⟨b, 0, none⟩) (cur := X1) (cs := [x0, x1, x2]) (ty := ty) hh1 (by rw [hm]; rfl)
      (fun j v hj => by rw [Addr.add_lit, Nat.zero_add]; exact cell_row3 hb1 _ _ hj) (by rw [hX1l]; simp; omega) (by simpa using ho)
    rw [hm] at h
    rw [hW2, hX2]
    exact h
  have e1 : X1.toList.take (i * 3) = cs.take (i * 3) := by
    rw [hX1, ← htk]
    show (cur.toList.take ((i + 1) * 3) ++ D ++ cur.toList.drop ((i + 1) * 3 + D.length)).take (i * 3) = _
    rw [List.append_assoc, List.take_append_of_le_length (by rw [List.length_take, hcurl]; omega), List.take_take, List.take_take]
    congr 1; omega
  have e2 : X1.toList.drop (i * 3 + 3) = D ++ cur.toList.drop ((i + 1) * 3 + D.length) := by
    rw [hX1]
    show (cur.toList.take ((i + 1) * 3) ++ D ++ cur.toList.drop ((i + 1) * 3 + D.length)).drop (i * 3 + 3) = _
    rw [List.append_assoc, List.drop_left' (by rw [List.length_take, hcurl]; omega)]
  have hw1 : IntKind.i64.wrap ((i : Int) + 1) = (i : Int) + 1 := by rw [IntKind.wrap_i64]; omega
  have hb1 : (0 : Int) ≤ (i : Int) + 1 := by omega
  have hin : i ≤ n := by omega
  have htn : ((i : Int) + 1).toNat = i + 1 := by omega
  have hb2 : ¬ (cap = i + 1) := by omega
  have hb3 : (i : Int) ≤ (n : Int) + 1 := by omega
  have hb4 : ¬ (cap = i) := by omega
  have hb5 : (i : Int) + 1 ≤ (n : Int) + 1 := by omega
  have HEND : Hid (InsAt w g n (cs.take (i * 3) ++ [x0, x1, x2] ++ cs.drop (i * 3)) (.returned (.slice (some ⟨g, 0, none⟩) (n + 1) cap)) W2) := by
    refine ⟨g, cap, X2, rfl, ⟨?_, ?_, hroom, hcm, ?_, ?_, ?_⟩, .inl rfl, ?_⟩
    · rw [hW2]; exact setRow_heap W1 g X1 X2 101 (0, 0) hh1
    · rw [hX2]; simp only [List.size_toArray, List.length_append, List.length_take, List.length_drop, Array.length_toList, hX1l, List.length_cons, List.length_nil]; omega
    · simp only [List.length_append, List.length_take, List.length_drop, hcl, List.length_cons, List.length_nil]; omega
    · rw [hX2]
      show (X1.toList.take (i * 3) ++ [x0, x1, x2] ++ X1.toList.drop (i * 3 + 3)).take ((n + 1) * 3) = _
      rw [e1, e2, ← hD, ← List.append_assoc]
      exact List.take_left' (by simp only [List.length_append, List.length_take, hcl, List.length_cons, List.length_nil, hDl]; omega)
    · intro u hu
      simp only [List.mem_append] at hu
      rcases hu with (hu | hu) | hu
      · exact hone u (List.mem_of_mem_take hu)
      · simp only [List.mem_cons, List.not_mem_nil, or_false] at hu
        rcases hu with rfl | rfl | rfl
        · exact ho.1
        · exact ho.2.1
        · exact ho.2.2
      · exact hone u (List.mem_of_mem_drop hu)
    · rw [hW2, hW1]
      exact ⟨rfl, rfl, rfl, by simp, fun k hk hne => (setRow_other _ g k X2 (fun e => hne (by rw [e]))).trans (setRow_other _ g k X1 (fun e => hne (by rw [e])))⟩
  clear hX1 hX2 hW1 hW2 hD
  go_enter Tryd.func73, Tryd.ntmps73
  go_wp2_with (simp only [hov])
  go_region_law (refine step_copy_runI rfl _ _ 94 94 rfl _ _ (by simp [Act.eval, Act.put]) (by simp [Act.eval, Act.put]) (hcp1 _ _ _) ?_)
  go_wp2_with (at_builtin; refine wpList_copy_runI _ rfl _ _ 94 94 rfl _ _ rfl rfl (hcp2 _ _) ?_)
  go_ret
  exact HEND.out

/-- the same, of a row that is owned. -/
def InsOwn (w : World) (base : Nat) (v : Value) (n : Nat) (cs : List Value) (e : Ending) (w' : World) : Prop :=
  ∃ v', e = .returned v' ∧ w'.ownsRow base 101 3 v' (n + 1) cs ∧ w.grownBy w' v.ownBlock ∧ (v'.ownBlock = v.ownBlock ∨ ∃ k, v'.ownBlock = some k ∧ w.heap.size ≤ k)
theorem cells_one3 {w : World} {b : Nat} {x0 x1 x2 : Value} (hb : w.heap[b]? = some (.cells #[x0, x1, x2] 101 (0, 0))) : ∀ j u, [x0, x1, x2][j]? = some u → w.cell? ((⟨b, 0, none⟩ : Addr).add j) = some u := fun j u hj => by
  rw [Addr.add_lit, Nat.zero_add]; exact cell_row3 hb j u hj
set_option maxHeartbeats 4000000 in
set_option maxRecDepth 100000 in
theorem insert_end (base : Nat) (v : Value) (n : Nat) (xs : List Value) (b : Nat) (x0 x1 x2 : Value) (w : World) (hown : w.ownsRow base 101 3 v n xs) (hn : n ≤ 100000) (hb : w.heap[b]? = some (.cells #[x0, x1, x2] 101 (0, 0)))
    (ho : x0.oneCell' = true ∧ x1.oneCell' = true ∧ x2.oneCell' = true) (hbase : base ≤ w.heap.size) :
    Calls Tryd.prog 73 #[v, .int .i64 n, .slice (some ⟨b, 0, none⟩) 1 1] w (InsOwn w base v n (xs ++ [x0, x1, x2])) := by
  obtain ⟨i0, hi, hzz⟩ := Option.map_eq_some_iff.1 info101'
  simp only [Prod.mk.injEq] at hzz
  obtain ⟨hz0, hz1, hz2⟩ := hzz
  have HN := cells_one3 hb
  have HI : Hid (∀ v' w', w'.ownsRow base 101 3 v' (n + 1) (xs ++ [x0, x1, x2]) → w.grownBy w' v.ownBlock → (v'.ownBlock = v.ownBlock ∨ v'.ownBlock = some w.heap.size) → InsOwn w base v n (xs ++ [x0, x1, x2]) (.returned v') w') := fun v' w' a b c =>
    ⟨v', rfl, a, b, c.imp id fun h => ⟨_, h, Nat.le_refl _⟩⟩
  have hm : n + 1 ≤ maxLen := by unfold maxLen; omega
  rcases hown.2 with ⟨rfl, rfl⟩ | ⟨g, cap, cur, rfl, hbg, hg, hnc, hcm, hcs, htake⟩
  · go_enter Tryd.func73, Tryd.ntmps73
    go_wp2_with (at_builtin; refine wpList_append_own_at _ rfl _ _ 94 rfl base 101 i0 _ 3 24 Tryd.underlying94 hi hz0 hz1 hz2 rfl (by omega) _ _ xs rfl hown ⟨b, 0, none⟩ 1 1 [x0, x1, x2] rfl rfl HN (by simpa using ho) hm (by omega) hbase ?_; intro v' w1 hown' hgrow hnil hat)
    go_ret
    exact HI.out _ _ hown' hgrow hat
  · go_enter Tryd.func73, Tryd.ntmps73
    go_wp2_with (at_builtin; refine wpList_append_own_at _ rfl _ _ 94 rfl base 101 i0 _ 3 24 Tryd.underlying94 hi hz0 hz1 hz2 rfl (by omega) _ _ xs rfl hown ⟨b, 0, none⟩ 1 1 [x0, x1, x2] rfl rfl HN (by simpa using ho) hm (by omega) hbase ?_; intro v' w1 hown' hgrow hnil hat)
    all_goals (go_ret; exact HI.out _ _ hown' hgrow hat)

set_option maxHeartbeats 4000000 in
set_option maxRecDepth 100000 in
theorem insert_grow (g n i : Nat) (cs : List Value) (cur : Array Value) (b : Nat) (x0 x1 x2 : Value) (w : World) (hR : RowAt w g n n cs cur) (hi : i < n) (hn : n ≤ 100000) (hb : w.heap[b]? = some (.cells #[x0, x1, x2] 101 (0, 0))) (hne : b ≠ g)
    (ho : x0.oneCell' = true ∧ x1.oneCell' = true ∧ x2.oneCell' = true) :
    Calls Tryd.prog 73 #[.slice (some ⟨g, 0, none⟩) n n, .int .i64 i, .slice (some ⟨b, 0, none⟩) 1 1] w (InsAt w g n (cs.take (i * 3) ++ [x0, x1, x2] ++ cs.drop (i * 3))) := by
  obtain ⟨hh, hsz, hnc, hcm, hcl, htk, hone⟩ := hR
  obtain ⟨i0, hi0, hzz⟩ := Option.map_eq_some_iff.1 info101'
  simp only [Prod.mk.injEq] at hzz
  obtain ⟨hz0, hz1, hz2'⟩ := hzz
  have hz2 : ((i : Int) == (n : Int)) = false := by have : ¬ (i : Int) = (n : Int) := by omega
                                                    simpa using this
  have hkk : (n : Int) + 1 - (i : Int) = ((n + 1 - i : Nat) : Int) := by omega
  have hik : i + (n + 1 - i) = n + 1 := by omega
  have hcs : ∀ j v, cs[j]? = some v → w.cell? ⟨g, j, none⟩ = some v := fun j v hj => by
    have hjl := (List.getElem?_eq_some_iff.1 hj).1
    rw [← htk, List.getElem?_take_of_lt (by omega)] at hj
    exact cell_row3 hh j v hj
  have hold : (Builtin.firstCells i0.size i (.slice (some ⟨g, 0, none⟩) i n)).run Tryd.prog w.drew = .ok (cs.take (i * 3)).toArray w.drew := by
    rw [hz1]
    exact run_firstCells_some w.drew 3 i ⟨g, 0, none⟩ i n (cs.take (i * 3)) (by rw [List.length_take]; omega) (fun j v hj => by
      rw [Addr.add_lit, Nat.zero_add]
      rw [List.getElem?_take] at hj
      split at hj
      · exact hcs j v hj
      · cases hj)
  obtain ⟨G, hG⟩ : ∃ G, G = grownCap w (n + 1) n 101 := ⟨_, rfl⟩
  have hGn : n + 1 ≤ G := by rw [hG]; exact grownCap_ge w _ _ _
  have hG63 : G ≤ 9223372036854775807 := by
    have := grownCap_le_maxLen w (n + 1) n 101 (by unfold maxLen; omega)
    rw [← hG] at this
    unfold maxLen at this
    omega
  have hrz : ∀ ty, (Builtin.append_ #[94, 3] ty #[.slice (some ⟨g, 0, none⟩) i n, .int .i64 ((n : Int) + 1 - (i : Int))]).run Tryd.prog w =
      .ok (.slice (some ⟨w.heap.size, 0, none⟩) (n + 1) (grownCap w (n + 1) n 101)) (w.drew.alloc (.cells ((cs.take (i * 3)).toArray ++ Builtin.zeroCells (Value.agg #[.int .u64 0, .int .u64 0, .int .u64 0]).cells (n + 1 - i) ++ Builtin.zeroCells (Value.agg #[.int .u64 0, .int .u64 0, .int .u64 0]).cells (grownCap w (n + 1) n 101 - (n + 1))) 101)) := fun ty => by
    have h := Lib.run_append_grow_zeros w 94 3 ty 101 i0 _ .i64 .i64 Tryd.underlying94 (by kernel_rfl) hi0 hz0 (some ⟨g, 0, none⟩) i n (cs.take (i * 3)) hold (n + 1 - i) (by omega) (by omega) (by omega) (by omega) (by rw [hz2']; omega) (by rw [hz2', hik]; exact growslice_fits (by omega) (by omega))
    rw [hik] at h
    rw [hkk]
    exact h
  obtain ⟨N, hN⟩ : ∃ N, N = w.heap.size := ⟨_, rfl⟩
  obtain ⟨Z, hZ⟩ : ∃ Z : Array Value, Z = Builtin.zeroCells (Value.agg #[.int .u64 0, .int .u64 0, .int .u64 0]).cells (n + 1 - i) ++ Builtin.zeroCells (Value.agg #[.int .u64 0, .int .u64 0, .int .u64 0]).cells (G - (n + 1)) := ⟨_, rfl⟩
  have hZl : Z.size = (n + 1 - i) * 3 + (G - (n + 1)) * 3 := by rw [hZ, Array.size_append, size_zeroCells, size_zeroCells]; rfl
  obtain ⟨ROW, hROW⟩ : ∃ ROW : Array Value, ROW = (cs.take (i * 3)).toArray ++ Z := ⟨_, rfl⟩
  rw [← hG, Array.append_assoc, ← hZ, ← hROW, ← hN] at hrz
  have hRl : ROW.size = G * 3 := by rw [hROW, Array.size_append, hZl, List.size_toArray, List.length_take, hcl]; omega
  have hRt : ROW.toList.take (i * 3) = cs.take (i * 3) := by
    rw [hROW, Array.toList_append]
    exact List.take_left' (by rw [List.length_take, hcl]; omega)
  obtain ⟨W1, hW1⟩ : ∃ W1, W1 = w.drew.alloc (.cells ROW 101) := ⟨_, rfl⟩
  rw [← hW1] at hrz
  have hgN : g ≠ N := by rw [hN]; exact Nat.ne_of_lt (blk_lt hh)
  have hbN : b ≠ N := by rw [hN]; exact Nat.ne_of_lt (blk_lt hb)
  have h1N : W1.heap[N]? = some (.cells ROW 101 (0, 0)) := by rw [hW1, hN]; exact heap_alloc_new w.drew _
  have h1g : W1.heap[g]? = some (.cells cur 101 (0, 0)) := by rw [hW1]; exact (Below.heap_alloc w.drew _ g (blk_lt hh)).trans hh
  have h1b : W1.heap[b]? = some (.cells #[x0, x1, x2] 101 (0, 0)) := by rw [hW1]; exact (Below.heap_alloc w.drew _ b (blk_lt hb)).trans hb
  obtain ⟨X1, hX1⟩ : ∃ X1, X1 = (ROW.toList.take (i * 3) ++ [x0, x1, x2] ++ ROW.toList.drop (i * 3 + 3)).toArray := ⟨_, rfl⟩
  have hX1l : X1.size = G * 3 := by rw [hX1]; simp only [List.size_toArray, List.length_append, List.length_take, List.length_drop, Array.length_toList, hRl, List.length_cons, List.length_nil]; omega
  have hcpA : ∀ (W : World), W.heap = W1.heap → ∀ ty dc, (Builtin.copy_ #[94, 94] ty #[.slice (some ⟨N, i * 3, none⟩) (n + 1 - i) dc, .slice (some ⟨b, 0, none⟩) 1 1]).run Tryd.prog W = .ok (goInt 1) (W.setRow N X1) := fun W hW ty dc => by
    have hm : Nat.min 1 (n + 1 - i) = 1 := by simp only [Nat.min_def]; split <;> omega
    have h := copy3 (W := W) (g := N) (off := i * 3) (dLen := n + 1 - i) (dCap := dc) (sLen := 1) (sCap := 1) (ad := ⟨b, 0, none⟩) (cur := ROW) (cs := [x0, x1, x2]) (ty := ty) (by rw [hW]; exact h1N) (by rw [hm]; rfl)
      (cells_one3 (by rw [hW]; exact h1b)) (by rw [hRl]; simp; omega) (by simpa using ho)
    rw [hm] at h
    rw [hX1]
    exact h
  obtain ⟨D, hD⟩ : ∃ D, D = cs.drop (i * 3) := ⟨_, rfl⟩
  have hDl : D.length = (n - i) * 3 := by rw [hD, List.length_drop, hcl]; omega
  obtain ⟨X2, hX2⟩ : ∃ X2, X2 = (X1.toList.take ((i + 1) * 3) ++ D ++ X1.toList.drop ((i + 1) * 3 + D.length)).toArray := ⟨_, rfl⟩
  have hcpB : ∀ (W : World), W.heap = (W1.setRow N X1).heap → ∀ ty dc sc, (Builtin.copy_ #[94, 94] ty #[.slice (some ⟨N, (i + 1) * 3, none⟩) (n - i) dc, .slice (some ⟨g, i * 3, none⟩) (n - i) sc]).run Tryd.prog W = .ok (goInt ((n - i : Nat) : Int)) (W.setRow N X2) := fun W hW ty dc sc => by
    have hm : Nat.min (n - i) (n - i) = n - i := Nat.min_self _
    have hWg : W.heap[g]? = some (.cells cur 101 (0, 0)) := by rw [hW]; exact (setRow_other _ N g X1 hgN).trans h1g
    have h := copy3 (W := W) (g := N) (off := (i + 1) * 3) (dLen := n - i) (dCap := dc) (sLen := n - i) (sCap := sc) (ad := ⟨g, i * 3, none⟩) (cur := X1) (cs := D) (ty := ty) (by rw [hW]; exact setRow_heap W1 N ROW X1 101 (0, 0) h1N) (by rw [hm]; exact hDl)
      (fun j v hj => by
        rw [Addr.add_lit]
        have hjl := (List.getElem?_eq_some_iff.1 hj).1
        rw [hD, List.getElem?_drop, ← htk, List.getElem?_take_of_lt (by omega)] at hj
        exact cell_row3 hWg _ _ hj) (by rw [hDl, hX1l]; omega) (fun u hu => hone u (List.mem_of_mem_drop (by rw [hD] at hu; exact hu)))
    rw [hm] at h
    rw [hX2]
    exact h
  have HEND : Hid (InsAt w g n (cs.take (i * 3) ++ [x0, x1, x2] ++ cs.drop (i * 3)) (.returned (.slice (some ⟨N, 0, none⟩) (n + 1) G)) ((((w.alloc (.cells ROW 101)).drew.setRow N X1).drew).setRow N X2)) := by
    refine ⟨N, G, X2, rfl, ⟨?_, ?_, hGn, hG63, ?_, ?_, ?_⟩, .inr (Nat.le_of_eq hN.symm), ⟨rfl, rfl, rfl, by simp, fun k hk hne => ?_⟩⟩
    · refine setRow_heap _ N X1 X2 101 (0, 0) (setRow_heap _ N ROW X1 101 (0, 0) ?_)
      rw [hN]; exact heap_alloc_new w _
    · rw [hX2]; simp only [List.size_toArray, List.length_append, List.length_take, List.length_drop, Array.length_toList, hX1l, hDl]; omega
    · simp only [List.length_append, List.length_take, List.length_drop, hcl, List.length_cons, List.length_nil]; omega
    · have e1 : X1.toList.take ((i + 1) * 3) = cs.take (i * 3) ++ [x0, x1, x2] := by
        rw [hX1]
        show (ROW.toList.take (i * 3) ++ [x0, x1, x2] ++ ROW.toList.drop (i * 3 + 3)).take ((i + 1) * 3) = _
        rw [hRt]
        exact List.take_left' (by simp only [List.length_append, List.length_take, hcl, List.length_cons, List.length_nil]; omega)
      rw [hX2]
      show (X1.toList.take ((i + 1) * 3) ++ D ++ X1.toList.drop ((i + 1) * 3 + D.length)).take ((n + 1) * 3) = _
      rw [e1, ← hD]
      exact List.take_left' (by simp only [List.length_append, List.length_take, hcl, List.length_cons, List.length_nil, hDl]; omega)
    · intro u hu
      simp only [List.mem_append] at hu
      rcases hu with (hu | hu) | hu
      · exact hone u (List.mem_of_mem_take hu)
      · simp only [List.mem_cons, List.not_mem_nil, or_false] at hu
        rcases hu with rfl | rfl | rfl
        · exact ho.1
        · exact ho.2.1
        · exact ho.2.2
      · exact hone u (List.mem_of_mem_drop hu)
    · have hkN : k ≠ N := by omega
      exact (setRow_other _ N k X2 hkN).trans ((setRow_other _ N k X1 hkN).trans (Below.heap_alloc w _ k hk))
  subst hN
  subst hW1
  have hE1 : ((w.alloc (.cells ROW 101)).drew).heap = (w.drew.alloc (.cells ROW 101)).heap := rfl
  have hF1 : (((w.alloc (.cells ROW 101)).drew.setRow w.heap.size X1).drew).heap = ((w.drew.alloc (.cells ROW 101)).setRow w.heap.size X1).heap := rfl
  have hw1 : IntKind.i64.wrap ((i : Int) + 1) = (i : Int) + 1 := by rw [IntKind.wrap_i64]; omega
  have hb1 : (0 : Int) ≤ (i : Int) + 1 := by omega
  have hin : i ≤ n := by omega
  have htn : ((i : Int) + 1).toNat = i + 1 := by omega
  have hb3 : (i : Int) ≤ (n : Int) := by omega
  have hb5 : (i : Int) + 1 ≤ (n : Int) + 1 := by omega
  have hb6 : (i : Int) ≤ (n : Int) + 1 := by omega
  have hz3 : (n : Int) < (n : Int) + 1 := by omega
  have hGi : ¬ (G = i) := by omega
  have hGim : ¬ (G = i + 1) := by omega
  have hci : ¬ (n = i) := by omega
  clear hkk hik hold hROW hG hRl hRt h1N h1g h1b hX1 hX2 hD hZ hZl hX1l hDl htk hcs hone
  go_enter Tryd.func73, Tryd.ntmps73
  go_wp2_with (first
    | (at_builtin; refine Lib.wpList_append_run _ rfl _ _ _ _ rfl _ _ rfl rfl _ _ (hrz _) ?_)
    | (at_builtin; refine wpList_copy_runI _ rfl _ _ 94 94 rfl _ _ rfl rfl (hcpA _ hE1 _ _) ?_)
    | (at_builtin; refine wpList_copy_runI _ rfl _ _ 94 94 rfl _ _ rfl rfl (hcpB _ rfl _ _ _) ?_))
  go_region_law (refine step_copy_runI rfl _ _ 94 94 rfl (.slice (some ⟨w.heap.size, (i + 1) * 3, none⟩) (n - i) (G - (i + 1))) (.slice (some ⟨g, i * 3, none⟩) (n - i) (n - i)) (by simp [Act.eval, Act.put]) (by simp [Act.eval, Act.put]) (hcpB _ hF1 3 (G - (i + 1)) (n - i)) ?_)
  go_wp2
  go_ret
  exact HEND.out

theorem InsAt.own {w : World} {base g n cap : Nat} {cs : List Value} {e : Ending} {w' : World} (h : InsAt w g n cs e w') (hb : base ≤ g) (hbase : base ≤ w.heap.size) : InsOwn w base (.slice (some ⟨g, 0, none⟩) n cap) n cs e w' := by
  obtain ⟨g', cap', cur', rfl, ⟨hh, hsz, hnc, hcm, hcl, htk, hone⟩, hg', hgr⟩ := h
  refine ⟨_, rfl, ⟨hcl, .inr ⟨g', cap', cur', rfl, ?_, hh, hnc, ?_, hsz, htk⟩⟩, by simpa [Value.ownBlock] using hgr, ?_⟩
  · rcases hg' with rfl | h
    · exact hb
    · omega
  · unfold maxLen; omega
  · rcases hg' with rfl | h
    · exact .inl rfl
    · exact .inr ⟨g', rfl, h⟩
/-- slices.Insert OF ONE CHANCE, of a row of one's own. -/
theorem insert_own (base : Nat) (v : Value) (n i : Nat) (xs : List Value) (b : Nat) (x0 x1 x2 : Value) (w : World) (hown : w.ownsRow base 101 3 v n xs) (h1 : ∀ u ∈ xs, u.oneCell' = true) (hi : i ≤ n) (hn : n ≤ 100000)
    (hb : w.heap[b]? = some (.cells #[x0, x1, x2] 101 (0, 0))) (hne : v.ownBlock ≠ some b) (ho : x0.oneCell' = true ∧ x1.oneCell' = true ∧ x2.oneCell' = true) (hbase : base ≤ w.heap.size) :
    Calls Tryd.prog 73 #[v, .int .i64 i, .slice (some ⟨b, 0, none⟩) 1 1] w (InsOwn w base v n (xs.take (i * 3) ++ [x0, x1, x2] ++ xs.drop (i * 3))) := by
  by_cases hin : i = n
  · subst hin
    have hl := hown.1
    rw [List.take_of_length_le (by omega), List.drop_eq_nil_of_le (by omega), List.append_nil]
    exact insert_end base v i xs b x0 x1 x2 w hown hn hb ho hbase
  · rcases hown.2 with ⟨rfl, rfl⟩ | ⟨g, cap, cur, rfl, hbg, hg, hnc, hcm, hcs, htake⟩
    · omega
    · have hne' : b ≠ g := fun e => hne (by simp [Value.ownBlock, e])
      have hR : RowAt w g n cap xs cur := ⟨hg, hcs, hnc, by unfold maxLen at hcm; omega, hown.1, htake, h1⟩
      by_cases hroom : n + 1 ≤ cap
      · exact (insert_shift g n cap i xs cur b x0 x1 x2 w hR (by omega) hroom hb hne' ho).mono fun e w' h => h.own hbg hbase
      · have : cap = n := by omega
        subst this
        exact (insert_grow g cap i xs cur b x0 x1 x2 w hR (by omega) hn hb hne' ho).mono fun e w' h => h.own hbg hbase
end Go.Proofs.YtdlnfmakfnggpaaDoor.Pr
namespace Go.Proofs.YtdlnfmakfnggpaaDoor.Pr
open Go.RowKit Go.Lib Go.Proofs.YtdlnfmakfnggpaaDoorW.PrintWords
set_option linter.unusedVariables false
set_option linter.unusedSimpArgs false
abbrev C3 := Int × Int × Int
def enc3 (c : C3) : List Value := [.int .u64 c.1, .int .u64 c.2.1, .int .u64 c.2.2]
def cells3 (l : List C3) : List Value := l.flatMap enc3
theorem cells3_length : ∀ l : List C3, (cells3 l).length = l.length * 3
  | [] => rfl
  | a :: r => by
    have := cells3_length r
    simp only [cells3, List.flatMap_cons, List.length_append, List.length_cons] at this ⊢
    rw [this]
    simp only [enc3, List.length_cons, List.length_nil]; omega
theorem cells3_append (a b : List C3) : cells3 (a ++ b) = cells3 a ++ cells3 b := by simp [cells3]
theorem cells3_take : ∀ (l : List C3) (n : Nat), (cells3 l).take (n * 3) = cells3 (l.take n)
  | [], n => by simp [cells3]
  | a :: r, 0 => by simp [cells3]
  | a :: r, n + 1 => by
    have := cells3_take r n
    rw [List.take_succ_cons, show (n + 1) * 3 = n * 3 + 3 by omega]
    simp only [cells3, List.flatMap_cons] at this ⊢
    simp only [enc3, List.cons_append, List.nil_append, List.take_succ_cons, this]
theorem cells3_drop : ∀ (l : List C3) (n : Nat), (cells3 l).drop (n * 3) = cells3 (l.drop n)
  | [], n => by simp [cells3]
  | a :: r, 0 => by simp [cells3]
  | a :: r, n + 1 => by
    have := cells3_drop r n
    rw [List.drop_succ_cons, show (n + 1) * 3 = n * 3 + 3 by omega]
    simp only [cells3, List.flatMap_cons] at this ⊢
    simp only [enc3, List.cons_append, List.nil_append, List.drop_succ_cons, this]
theorem cells3_one (l : List C3) : ∀ u ∈ cells3 l, u.oneCell' = true := by
  intro u hu
  obtain ⟨c, _, hc⟩ := List.mem_flatMap.1 hu
  simp only [enc3, List.mem_cons, List.not_mem_nil, or_false] at hc
  rcases hc with rfl | rfl | rfl <;> rfl
theorem cells3_at (l : List C3) (j : Nat) (hj : j < l.length) (i : Nat) : i < 3 → (cells3 l)[j * 3 + i]? = (enc3 l[j]!)[i]? := fun hi => by
  rw [← List.getElem?_drop, cells3_drop, List.drop_eq_getElem_cons hj, getElem!_pos l j hj]
  simp only [cells3, List.flatMap_cons]
  rw [List.getElem?_append_left (by simpa [enc3] using hi)]
def cmpi (a b : Int) : Int := if a < b then -1 else if a > b then 1 else 0
def ahd (a b : C3) : Int := if cmpi a.1 b.1 = 0 then (if cmpi a.2.1 b.2.1 = 0 then cmpi a.2.2 b.2.2 else cmpi a.2.1 b.2.1) else cmpi a.1 b.1
theorem ahd_run (a b : C3) : sample_ahead.f 4 a.1 a.2.1 a.2.2 b.1 b.2.1 b.2.2 = some (ahd a b) := by
  have hc : ∀ x y : Int, cmp_Compare_uint64.f x y = some (cmpi x y) := fun x y => by
    simp only [cmp_Compare_uint64.f, cmp_isNaN_uint64.f, Option.bind_some, bne_self_eq_false, Bool.false_eq_true, if_false]
    unfold cmpi
    split
    · rfl
    · split <;> rfl
  simp only [sample_ahead.f, hc, Option.bind_some]
  have h3 : ∀ x y z : Int, cmp_Or_int.f 4 [x, y, z] = some (if x = 0 then (if y = 0 then z else y) else x) := fun x y z => by
    have w1 : wrap64 1 = 1 := by kernel_rfl
    have w2 : wrap64 2 = 2 := by kernel_rfl
    have w3 : wrap64 3 = 3 := by kernel_rfl
    by_cases hx : x = 0
    · subst hx
      by_cases hy : y = 0
      · subst hy
        by_cases hz : z = 0
        · subst hz
          simp [cmp_Or_int.f, cmp_Or_int.l0, rd, w1, w2, w3]
        · simp [cmp_Or_int.f, cmp_Or_int.l0, rd, w1, w2, w3, hz]
      · simp [cmp_Or_int.f, cmp_Or_int.l0, rd, w1, w2, w3, hy]
    · simp [cmp_Or_int.f, cmp_Or_int.l0, rd, w1, w2, w3, hx]
  rw [h3]
  rfl
def lt3 (a b : C3) : Prop := a.1 < b.1 ∨ a.1 = b.1 ∧ (a.2.1 < b.2.1 ∨ a.2.1 = b.2.1 ∧ a.2.2 < b.2.2)
instance (a b : C3) : Decidable (lt3 a b) := inferInstanceAs (Decidable (_ ∨ _))
theorem ahd_neg (a b : C3) : ahd a b < 0 ↔ lt3 a b := by
  unfold ahd cmpi lt3
  repeat' split
  all_goals omega
theorem ahd_zero (a b : C3) : ahd a b = 0 ↔ a = b := by
  obtain ⟨a1, a2, a3⟩ := a
  obtain ⟨b1, b2, b3⟩ := b
  unfold ahd cmpi
  simp only [Prod.mk.injEq]
  repeat' split
  all_goals omega
theorem lt3_trans {a b c : C3} (h : lt3 a b) (k : lt3 b c) : lt3 a c := by unfold lt3 at *; omega
theorem lt3_irrefl (a : C3) : ¬ lt3 a a := by unfold lt3; omega
theorem lt3_total {a b : C3} (h : ¬ lt3 a b) : a = b ∨ lt3 b a := by
  obtain ⟨a1, a2, a3⟩ := a
  obtain ⟨b1, b2, b3⟩ := b
  simp only [Prod.mk.injEq]
  unfold lt3 at *
  simp only at *
  omega
def Srt (l : List C3) : Prop := l.Pairwise lt3
def pos (l : List C3) (x : C3) : Nat := l.countP (fun c => decide (lt3 c x))
def HAt (l : List C3) (x : C3) (i : Nat) : Bool := decide (i < l.length) && decide (l[i]! = x)
theorem countP_first {α : Type} [Inhabited α] (p : α → Bool) : ∀ (l : List α) (i : Nat), i ≤ l.length → (∀ t, t < i → p l[t]! = true) → (∀ t, i ≤ t → t < l.length → p l[t]! = false) → l.countP p = i
  | [], i, hi, _, _ => by simp at hi; simp [hi]
  | a :: r, 0, _, _, h2 => by
    rw [List.countP_eq_zero]
    intro x hx
    obtain ⟨t, ht, rfl⟩ := List.getElem_of_mem hx
    have := h2 t (Nat.zero_le _) ht
    rw [getElem!_pos (a :: r) t ht] at this
    simp [this]
  | a :: r, i + 1, hi, h1, h2 => by
    have ha : p a = true := by simpa using h1 0 (Nat.succ_pos _)
    rw [List.countP_cons_of_pos ha, countP_first p r i (by simpa using hi) (fun t ht => by simpa using h1 (t + 1) (by omega)) (fun t h3 h4 => by simpa using h2 (t + 1) (by omega) (by simpa using h4))]
set_option maxHeartbeats 4000000 in
set_option maxRecDepth 100000 in
theorem search3 (l : List C3) (hs : Srt l) (x : C3) (g cap : Nat) (w : World) (hrow : ∀ j v, (cells3 l)[j]? = some v → w.cell? ⟨g, j, none⟩ = some v) (hl : l.length ≤ 100000) :
    Calls Tryd.prog 72 #[.slice (some ⟨g, 0, none⟩) l.length cap, .agg #[.int .u64 x.1, .int .u64 x.2.1, .int .u64 x.2.2], .func (.func 58) #[] #[]] w fun e w' =>
      e = .returned (.tuple #[.int .i64 (pos l x : Nat), .bool (HAt l x (pos l x))]) ∧ Below w.heap.size w w' := by
  obtain ⟨x1, x2, x3⟩ := x
  simp only
  have M : Aside (∀ a b, a ≤ b → b < l.length → ahd l[b]! (x1, x2, x3) < 0 → ahd l[a]! (x1, x2, x3) < 0) := fun a b hab hb h => by
    rw [ahd_neg] at h ⊢
    by_cases e : a = b
    · subst e; exact h
    · refine lt3_trans ?_ h
      rw [getElem!_pos l a (by omega), getElem!_pos l b hb]
      exact List.pairwise_iff_getElem.1 hs a b (by omega) hb (by omega)
  have HR : Aside (∀ j, j < l.length → w.cell? ⟨g, j * 3, none⟩ = some (.int .u64 (l[j]!).1) ∧ w.cell? ⟨g, j * 3 + 1, none⟩ = some (.int .u64 (l[j]!).2.1) ∧ w.cell? ⟨g, j * 3 + 2, none⟩ = some (.int .u64 (l[j]!).2.2)) := fun j hj =>
    ⟨hrow _ _ (by rw [show j * 3 = j * 3 + 0 from rfl, cells3_at l j hj 0 (by omega)]; rfl), hrow _ _ (by rw [cells3_at l j hj 1 (by omega)]; rfl), hrow _ _ (by rw [cells3_at l j hj 2 (by omega)]; rfl)⟩
  have HA : Aside (∀ (c : C3) (W : World), Calls Tryd.prog 58 #[.agg #[.int .u64 c.1, .int .u64 c.2.1, .int .u64 c.2.2], .agg #[.int .u64 x1, .int .u64 x2, .int .u64 x3]] W fun e w' => e = .returned (.int .i64 (ahd c (x1, x2, x3))) ∧ Below W.heap.size W w') := fun c W =>
    sample_ahead.calls 4 c.1 c.2.1 c.2.2 x1 x2 x3 _ W (ahd_run c (x1, x2, x3))
  obtain ⟨W0, hW0⟩ : ∃ W0, W0 = w.alloc (.cells #[.int .u64 x1, .int .u64 x2, .int .u64 x3] 101) := ⟨_, rfl⟩
  have HB0 : Aside (Below w.heap.size w W0) := by rw [hW0]; exact (Below.refl _ _).alloc (Nat.le_refl _) _
  have HT0 : Aside (W0.heap[w.heap.size]? = some (.cells #[.int .u64 x1, .int .u64 x2, .int .u64 x3] 101 (0, 0))) := by rw [hW0]; exact blk_new w _
  clear hrow hs
  generalize hcnt : pos l (x1, x2, x3) = cnt
  have CN : Aside (pos l (x1, x2, x3) = cnt) := hcnt
  clear hcnt
  generalize hfin : HAt l (x1, x2, x3) cnt = fin
  have FIN : Aside (HAt l (x1, x2, x3) cnt = fin) := hfin
  clear hfin
  have HX : Aside (∀ (W : World), Below W0.heap.size W0 W → W.cell? ⟨w.heap.size, 0, none⟩ = some (.int .u64 x1) ∧ W.cell? ⟨w.heap.size, 1, none⟩ = some (.int .u64 x2) ∧ W.cell? ⟨w.heap.size, 2, none⟩ = some (.int .u64 x3)) := fun W hW => by
    have b := blk_below HT0.out hW
    exact ⟨(cell_of_row _ _ 0 _ _ _ b).trans rfl, (cell_of_row _ _ 1 _ _ _ b).trans rfl, (cell_of_row _ _ 2 _ _ _ b).trans rfl⟩
  have HS0 : Aside (Below W0.heap.size W0 W0) := Below.refl _ _
  have HRW : Aside (∀ (W : World), Below W0.heap.size W0 W → ∀ j, j < l.length → W.cell? ⟨g, j * 3, none⟩ = some (.int .u64 (l[j]!).1) ∧ W.cell? ⟨g, j * 3 + 1, none⟩ = some (.int .u64 (l[j]!).2.1) ∧ W.cell? ⟨g, j * 3 + 2, none⟩ = some (.int .u64 (l[j]!).2.2)) := fun W hW j hj => by
    have h := HR.out j hj
    have hb := HB0.out
    exact ⟨pw_cell_below hW (pw_cell_below hb h.1), pw_cell_below hW (pw_cell_below hb h.2.1), pw_cell_below hW (pw_cell_below hb h.2.2)⟩
  have HEND : Aside (∀ (W : World) (i : Nat), Below W0.heap.size W0 W → i ≤ l.length → (∀ t, t < i → ahd l[t]! (x1, x2, x3) < 0) → (∀ t, i ≤ t → t < l.length → 0 ≤ ahd l[t]! (x1, x2, x3)) → cnt = i ∧ Below w.heap.size w W) := fun W i hW hi h1 h2 => by
    refine ⟨?_, HB0.out.trans (hW.mono HB0.out.size)⟩
    rw [← CN.out]
    exact countP_first _ l i hi (fun t ht => decide_eq_true ((ahd_neg _ _).1 (h1 t ht))) (fun t h3 h4 => decide_eq_false (fun h => by have := h2 t h3 h4; have := (ahd_neg _ _).2 h; omega))
  clear HR HB0 HT0
  go_enter Tryd.func72, Tryd.ntmps72
  go_wp2
  rw [← hW0]
  clear hW0
  go_loopg [9, 10] l.length (fun kx s9 s10 wr => ∃ lo hi : Nat, s9 = .int .i64 lo ∧ s10 = .int .i64 hi ∧ lo ≤ hi ∧ hi ≤ l.length ∧ hi - lo ≤ kx ∧ Aside (Below W0.heap.size W0 wr) ∧
    Aside ((∀ t, t < lo → ahd l[t]! (x1, x2, x3) < 0) ∧ (∀ t, hi ≤ t → t < l.length → 0 ≤ ahd l[t]! (x1, x2, x3))))
  case atStart => exact ⟨0, l.length, rfl, rfl, Nat.zero_le _, Nat.le_refl _, by omega, HS0, (⟨fun t ht => absurd ht (Nat.not_lt_zero _), fun t h1 h2 => by omega⟩ : (∀ t, t < 0 → ahd l[t]! (x1, x2, x3) < 0) ∧ (∀ t, l.length ≤ t → t < l.length → 0 ≤ ahd l[t]! (x1, x2, x3)))⟩
  case round =>
    clear HS0
    obtain ⟨lo, hi, rfl, rfl, hlh, hin, hg, S1, I⟩ := hrel
    by_cases hlt : lo < hi
    · have hm : (lo + hi) / 2 < l.length := by omega
      generalize hy : l[(lo + hi) / 2]! = y
      have Y : Aside (l[(lo + hi) / 2]! = y) := hy
      have hc : ∀ z : Wx wr, z.W.cell? ⟨g, (lo + hi) / 2 * 3, none⟩ = some (.int .u64 y.1) ∧ z.W.cell? ⟨g, (lo + hi) / 2 * 3 + 1, none⟩ = some (.int .u64 y.2.1) ∧ z.W.cell? ⟨g, (lo + hi) / 2 * 3 + 2, none⟩ = some (.int .u64 y.2.2) := fun z => by
        have h := HRW.out z.W (S1.out.trans (z.h.mono S1.out.size)) _ hm
        rw [hy] at h
        exact h
      have hx : ∀ z : Wx wr, z.W.cell? ⟨w.heap.size, 0, none⟩ = some (.int .u64 x1) ∧ z.W.cell? ⟨w.heap.size, 1, none⟩ = some (.int .u64 x2) ∧ z.W.cell? ⟨w.heap.size, 2, none⟩ = some (.int .u64 x3) := fun z => HX.out z.W (S1.out.trans (z.h.mono S1.out.size))
      have c0 := fun z => (hc z).1
      have c1 := fun z => (hc z).2.1
      have c2 := fun z => (hc z).2.2
      have d0 := fun z => (hx z).1
      have d1 := fun z => (hx z).2.1
      have d2 := fun z => (hx z).2.2
      clear hc hx hy
      obtain ⟨y1, y2, y3⟩ := y
      have hcall := HA.out (y1, y2, y3)
      dsimp only at c0 c1 c2 hcall
      by_cases hyx : ahd (y1, y2, y3) (x1, x2, x3) < 0
      · go_wp2
        refine wp_region_ext (by kernel_rfl) (by kernel_rfl) ?_
        repeat (go_big_quiet_step ((go_at_call 58; exact Calls.ext_of (hcall _))))
        refine wpQuiet_nil ?_
        intro _ hw'
        obtain ⟨zz, rfl⟩ := hw'
        have S2 : Aside (Below W0.heap.size W0 zz.W) := S1.out.trans (zz.h.mono S1.out.size)
        clear hcall c0 c1 c2 d0 d1 d2
        go_wp2
        go_roundg (hi - ((lo + hi) / 2 + 1))
        case measure => omega
        case rel =>
          have I2 : Aside ((∀ t, t < (lo + hi) / 2 + 1 → ahd l[t]! (x1, x2, x3) < 0) ∧ (∀ t, hi ≤ t → t < l.length → 0 ≤ ahd l[t]! (x1, x2, x3))) := ⟨fun t ht => M t ((lo + hi) / 2) (by omega) (by omega) (by rw [show l[(lo + hi) / 2]! = _ from Y]; exact hyx), I.out.2⟩
          exact ⟨(lo + hi) / 2 + 1, hi, by rw [show ((lo : Int) + (hi : Int)) / 2 + 1 = (((lo + hi) / 2 + 1 : Nat) : Int) by omega], rfl, by omega, hin, Nat.le_refl _, S2, I2⟩
      · go_wp2
        refine wp_region_ext (by kernel_rfl) (by kernel_rfl) ?_
        repeat (go_big_quiet_step ((go_at_call 58; exact Calls.ext_of (hcall _))))
        refine wpQuiet_nil ?_
        intro _ hw'
        obtain ⟨zz, rfl⟩ := hw'
        have S2 : Aside (Below W0.heap.size W0 zz.W) := S1.out.trans (zz.h.mono S1.out.size)
        clear hcall c0 c1 c2 d0 d1 d2
        go_wp2
        go_roundg ((lo + hi) / 2 - lo)
        case measure => omega
        case rel =>
          have I2 : Aside ((∀ t, t < lo → ahd l[t]! (x1, x2, x3) < 0) ∧ (∀ t, (lo + hi) / 2 ≤ t → t < l.length → 0 ≤ ahd l[t]! (x1, x2, x3))) := ⟨I.out.1, fun t ht htn => Int.not_lt.1 fun h => by have := M ((lo + hi) / 2) t ht htn h; rw [show l[(lo + hi) / 2]! = _ from Y] at this; omega⟩
          exact ⟨lo, (lo + hi) / 2, rfl, by rw [show ((lo : Int) + (hi : Int)) / 2 = (((lo + hi) / 2 : Nat) : Int) by omega], by omega, by omega, Nat.le_refl _, S2, I2⟩
    · obtain rfl : hi = lo := by omega
      obtain ⟨rfl, hBW⟩ := HEND.out _ hi S1.out hin I.out.1 I.out.2
      have HBW : Aside _ := hBW
      clear hBW
      by_cases hn : cnt < l.length
      · generalize hy : l[cnt]! = y
        have Y : Aside (l[cnt]! = y) := hy
        have hc : ∀ z : Wx wr, z.W.cell? ⟨g, cnt * 3, none⟩ = some (.int .u64 y.1) ∧ z.W.cell? ⟨g, cnt * 3 + 1, none⟩ = some (.int .u64 y.2.1) ∧ z.W.cell? ⟨g, cnt * 3 + 2, none⟩ = some (.int .u64 y.2.2) := fun z => by
          have h := HRW.out z.W (S1.out.trans (z.h.mono S1.out.size)) _ hn
          rw [hy] at h
          exact h
        have hx : ∀ z : Wx wr, z.W.cell? ⟨w.heap.size, 0, none⟩ = some (.int .u64 x1) ∧ z.W.cell? ⟨w.heap.size, 1, none⟩ = some (.int .u64 x2) ∧ z.W.cell? ⟨w.heap.size, 2, none⟩ = some (.int .u64 x3) := fun z => HX.out z.W (S1.out.trans (z.h.mono S1.out.size))
        have c0 := fun z => (hc z).1
        have c1 := fun z => (hc z).2.1
        have c2 := fun z => (hc z).2.2
        have d0 := fun z => (hx z).1
        have d1 := fun z => (hx z).2.1
        have d2 := fun z => (hx z).2.2
        clear hc hx hy
        obtain ⟨y1, y2, y3⟩ := y
        have hcall := HA.out (y1, y2, y3)
        dsimp only at c0 c1 c2 hcall
        have hfin : fin = decide (ahd (y1, y2, y3) (x1, x2, x3) = 0) := by
          rw [← show HAt l (x1, x2, x3) cnt = fin from FIN]
          unfold HAt
          rw [show l[cnt]! = _ from Y]
          simp [hn, ahd_zero]
        generalize ahd (y1, y2, y3) (x1, x2, x3) = r at hfin hcall
        have hlc : (cnt : Int) < (l.length : Int) := by omega
        have hfin' : (r == 0) = fin := by rw [hfin]; exact (Bool.beq_eq_decide_eq r 0)
        go_wp2
        refine wp_region_ext (by kernel_rfl) (by kernel_rfl) ?_
        repeat (go_big_quiet_step ((go_at_call 58; exact Calls.ext_of (hcall _))))
        refine wpQuiet_nil ?_
        intro _ hw'
        obtain ⟨zz, rfl⟩ := hw'
        have HE : Aside (Below w.heap.size w zz.W) := HBW.out.trans (zz.h.mono HBW.out.size)
        clear hcall c0 c1 c2 d0 d1 d2
        go_wp2
        go_ret2
        exact ⟨by rw [hfin]; rfl, HE⟩
      · have hfin : fin = false := by
          rw [← show HAt l (x1, x2, x3) cnt = fin from FIN]
          unfold HAt
          simp [hn]
        subst hfin
        have hlc : ¬ (cnt : Int) < (l.length : Int) := by omega
        go_wp2
        refine wp_region_ext (by kernel_rfl) (by kernel_rfl) ?_
        repeat (go_big_quiet_step (fail))
        refine wpQuiet_nil ?_
        intro _ hw'
        obtain ⟨zz, rfl⟩ := hw'
        have HE : Aside (Below w.heap.size w zz.W) := HBW.out.trans (zz.h.mono HBW.out.size)
        go_wp2
        go_ret2
        exact ⟨rfl, HE⟩
end Go.Proofs.YtdlnfmakfnggpaaDoor.Pr
namespace Go.Proofs.YtdlnfmakfnggpaaDoor.Pr
open Go.RowKit Go.Lib Go.Proofs.YtdlnfmakfnggpaaDoorW.PrintWords
set_option linter.unusedVariables false
set_option linter.unusedSimpArgs false
/-- All that lies in w is as it was, but the blocks of S. -/
structure Kx (w w' : World) (S : Nat → Prop) : Prop where
  os : w'.os = w.os
  tape : w'.tape = w.tape
  output : w'.output = w.output
  size : w.heap.size ≤ w'.heap.size
  block : ∀ k, k < w.heap.size → ¬ S k → w'.heap[k]? = w.heap[k]?
section
variable {w W W2 : World} {S S2 S' : Nat → Prop}
theorem Kx.refl (w : World) (S : Nat → Prop) : Kx w w S := ⟨rfl, rfl, rfl, Nat.le_refl _, fun _ _ _ => rfl⟩
theorem Kx.of_below (h : Below w.heap.size w W) (S : Nat → Prop) : Kx w W S := ⟨h.os, h.tape, h.output, h.size, fun k hk _ => h.block k hk⟩
theorem Kx.of_grown {r : Option Nat} (h : w.grownBy W r) : Kx w W (fun k => r = some k) := ⟨h.os, h.tape, h.output, h.size, fun k hk hn => h.block k hk (fun e => hn e.symm)⟩
theorem Kx.then_ (h : Kx w W S) (k : Kx W W2 S2) (hs : ∀ k, S2 k → S k ∨ w.heap.size ≤ k) : Kx w W2 S :=
  ⟨k.os.trans h.os, k.tape.trans h.tape, k.output.trans h.output, Nat.le_trans h.size k.size, fun i hi hn => (k.block i (Nat.lt_of_lt_of_le hi h.size) (fun h2 => (hs i h2).elim hn (fun h3 => by omega))).trans (h.block i hi hn)⟩
theorem Kx.mono (h : Kx w W S) (hs : ∀ k, S k → S' k) : Kx w W S' := ⟨h.os, h.tape, h.output, h.size, fun i hi hn => h.block i hi (fun hk => hn (hs i hk))⟩
theorem Kx.below {B : Nat} (h : Kx w W S) (hB : B ≤ w.heap.size) (hs : ∀ k, S k → B ≤ k) : Below B w W := ⟨h.os, h.tape, h.output, h.size, fun i hi => h.block i (by omega) (fun hk => by have := hs i hk; omega)⟩
theorem Kx.setCell (w : World) (p : Addr) (u : Value) : Kx w (w.setCell p u) (fun k => k = p.block) := ⟨rfl, rfl, rfl, by simp [World.setCell], fun i _ hn => Below.heap_setCell w p u i hn⟩
theorem Kx.own {base : Nat} {e : TypeId} {size n : Nat} {v : Value} {xs : List Value} (k : Kx w W S) (h : w.ownsRow base e size v n xs) (hn : ∀ g, v.ownBlock = some g → ¬ S g) : W.ownsRow base e size v n xs := by
  refine ⟨h.1, ?_⟩
  rcases h.2 with hx | ⟨g, cap, cur, rfl, hb, hgg, rest⟩
  · exact .inl hx
  · refine .inr ⟨g, cap, cur, rfl, hb, ?_, rest⟩
    rw [k.block g (Array.getElem?_eq_some_iff.1 hgg).1 (hn g rfl)]
    exact hgg
end
theorem ownsRow_some {w : World} {base n : Nat} {v : Value} {xs : List Value} (h : w.ownsRow base 101 3 v n xs) (hn : 0 < n) : ∃ g cap cur, v = .slice (some ⟨g, 0, none⟩) n cap ∧ base ≤ g ∧ w.heap[g]? = some (.cells cur 101 (0, 0)) ∧ n ≤ cap ∧ cap ≤ maxLen ∧ cur.size = cap * 3 ∧ cur.toList.take (n * 3) = xs := by
  rcases h.2 with ⟨_, h0⟩ | h
  · omega
  · exact h
theorem search_own (base : Nat) (v : Value) (l : List C3) (hs : Srt l) (x : C3) (w : World) (hown : w.ownsRow base 101 3 v l.length (cells3 l)) (hl : l.length ≤ 100000) :
    Calls Tryd.prog 72 #[v, .agg #[.int .u64 x.1, .int .u64 x.2.1, .int .u64 x.2.2], .func (.func 58) #[] #[]] w fun e w' =>
      e = .returned (.tuple #[.int .i64 (pos l x : Nat), .bool (HAt l x (pos l x))]) ∧ Below w.heap.size w w' := by
  rcases hown.2 with ⟨rfl, h0⟩ | ⟨g, cap, cur, rfl, hbg, hg, hnc, hcm, hcs, htake⟩
  · have : l = [] := List.eq_nil_of_length_eq_zero h0
    subst this
    exact search_nil none 0 _ _ _ _ w
  · exact search3 l hs x g cap w (fun j u hj => by
      have hjl := (List.getElem?_eq_some_iff.1 hj).1
      rw [cells3_length] at hjl
      rw [← htake, List.getElem?_take_of_lt hjl] at hj
      exact cell_row3 hg j u hj) hl
/-- The list with the chance in its place. -/
def insL (l : List C3) (x : C3) : List C3 := if HAt l x (pos l x) = true then l else l.take (pos l x) ++ x :: l.drop (pos l x)
theorem pos_le (l : List C3) (x : C3) : pos l x ≤ l.length := List.countP_le_length
theorem insL_new {l : List C3} {x : C3} (h : HAt l x (pos l x) = false) : insL l x = l.take (pos l x) ++ x :: l.drop (pos l x) := by
  unfold insL; rw [h]; rfl
theorem insL_old {l : List C3} {x : C3} (h : HAt l x (pos l x) = true) : insL l x = l := by
  unfold insL; rw [if_pos h]
theorem insL_new_length {l : List C3} {x : C3} (h : HAt l x (pos l x) = false) : (insL l x).length = l.length + 1 := by
  have := pos_le l x
  rw [insL_new h]; simp only [List.length_append, List.length_take, List.length_cons, List.length_drop]; omega
def InOwn (w : World) (base : Nat) (v : Value) (l : List C3) (x : C3) (e : Ending) (w' : World) : Prop :=
  ∃ v', e = .returned (.tuple #[v', .int .i64 (pos l x : Nat)]) ∧ w'.ownsRow base 101 3 v' (insL l x).length (cells3 (insL l x)) ∧ Kx w w' (fun k => v.ownBlock = some k) ∧ (v'.ownBlock = v.ownBlock ∨ ∃ k, v'.ownBlock = some k ∧ w.heap.size ≤ k)
set_option maxHeartbeats 4000000 in
theorem in_own (base : Nat) (v : Value) (l : List C3) (hs : Srt l) (x : C3) (w : World) (hown : w.ownsRow base 101 3 v l.length (cells3 l)) (hl : l.length ≤ 10000) (hbase : base ≤ w.heap.size) :
    Calls Tryd.prog 57 #[v, .agg #[.int .u64 x.1, .int .u64 x.2.1, .int .u64 x.2.2], .func (.func 58) #[] #[]] w (InOwn w base v l x) := by
  obtain ⟨m, h, lo⟩ := x
  simp only
  have HS := Lib.hid (fun W hW => search_own base v l hs (m, h, lo) W hW (by omega))
  have HB := Lib.hid ((Below.refl w.heap.size w).alloc (Nat.le_refl _) (.cells #[.int .u64 m, .int .u64 h, .int .u64 lo] 101))
  have HG := Lib.hid (blk_new w (.cells #[.int .u64 m, .int .u64 h, .int .u64 lo] 101))
  have HO := Lib.hid (hown.alloc (.cells #[.int .u64 m, .int .u64 h, .int .u64 lo] 101))
  have HLT := Lib.hid hown.lt
  have HL := Lib.hid hl
  have HBS := Lib.hid hbase
  have HIO : Hid (∀ w1, Below (w.alloc (.cells #[.int .u64 m, .int .u64 h, .int .u64 lo] 101)).heap.size (w.alloc (.cells #[.int .u64 m, .int .u64 h, .int .u64 lo] 101)) w1 → HAt l (m, h, lo) (pos l (m, h, lo)) = true → InOwn w base v l (m, h, lo) (.returned (.tuple #[v, .int .i64 (pos l (m, h, lo) : Nat)])) w1) := fun w1 hb hh =>
    ⟨v, rfl, by rw [insL_old hh]; exact pw_own_below HO.out hb, Kx.of_below (HB.out.trans (hb.mono HB.out.size)) _, .inl rfl⟩
  have HIN : Hid (∀ w1, Below (w.alloc (.cells #[.int .u64 m, .int .u64 h, .int .u64 lo] 101)).heap.size (w.alloc (.cells #[.int .u64 m, .int .u64 h, .int .u64 lo] 101)) w1 → HAt l (m, h, lo) (pos l (m, h, lo)) = false →
      Calls Tryd.prog 73 #[v, .int .i64 (pos l (m, h, lo) : Nat), .slice (some ⟨w1.heap.size, 0, none⟩) 1 1] (w1.alloc (.cells #[.int .u64 m, .int .u64 h, .int .u64 lo] 101)) fun e w2 => ∃ v', e = .returned v' ∧ InOwn w base v l (m, h, lo) (.returned (.tuple #[v', .int .i64 (pos l (m, h, lo) : Nat)])) w2) := fun w1 hb hh => by
    have hb2 := (hb.alloc hb.size (.cells #[.int .u64 m, .int .u64 h, .int .u64 lo] 101))
    have hBw : Below w.heap.size w w1 := HB.out.trans (hb.mono HB.out.size)
    have hBw2 : Below w.heap.size w (w1.alloc (.cells #[.int .u64 m, .int .u64 h, .int .u64 lo] 101)) := below_alloc hBw _
    have hsz := hBw.size
    have hsz2 := hBw2.size
    refine (insert_own base v l.length (pos l (m, h, lo)) (cells3 l) w1.heap.size (.int .u64 m) (.int .u64 h) (.int .u64 lo) _ (pw_own_below HO.out hb2) (cells3_one l) (pos_le l _) (by have := HL.out; omega) (blk_new w1 _) (fun e => by have := (HLT.out _ e).2; omega) ⟨rfl, rfl, rfl⟩ (by have := HBS.out; omega)).mono ?_
    rintro e w2 ⟨v', rfl, ho, hg, hv⟩
    refine ⟨v', rfl, v', rfl, ?_, (Kx.of_below hBw2 _).then_ (Kx.of_grown hg) (fun k hk => .inl hk), hv.imp id (fun ⟨k, h1, h2⟩ => ⟨k, h1, by omega⟩)⟩
    rw [insL_new_length hh, insL_new hh, cells3_append, ← cells3_take, show cells3 ((m, h, lo) :: l.drop (pos l (m, h, lo))) = [.int .u64 m, .int .u64 h, .int .u64 lo] ++ cells3 (l.drop (pos l (m, h, lo))) from rfl, ← cells3_drop, ← List.append_assoc]
    exact ho
  clear hown hl hbase
  generalize hfin : HAt l (m, h, lo) (pos l (m, h, lo)) = fin at *
  generalize hpos : pos l (m, h, lo) = at_ at *
  go_enter Tryd.func57, Tryd.ntmps57
  go_wp2_with fail
  refine (HS.out _ HO.out).mono ?_
  rintro e w1 ⟨rfl, hb⟩
  have HB1 := Lib.hid hb
  have hg := blk_below HG.out hb
  have hc0 := (cell_of_row _ _ 0 _ _ _ hg).trans rfl
  have hc1 := (cell_of_row _ _ 1 _ _ _ hg).trans rfl
  have hc2 := (cell_of_row _ _ 2 _ _ _ hg).trans rfl
  clear hg hb
  cases fin with
  | true =>
    go_wp2_with fail
    go_ret2
    exact HIO.out _ HB1.out (by first | rfl | trivial)
  | false =>
    go_wp2_with fail
    refine (HIN.out _ HB1.out (by first | rfl | trivial)).mono ?_
    rintro e w2 ⟨v', rfl, hpost⟩
    have HP := Lib.hid hpost
    clear hpost
    go_wp2_with fail
    go_ret2
    exact HP.out

theorem insL_pos (l : List C3) (x : C3) : 0 < (insL l x).length := by
  cases h : HAt l x (pos l x) with
  | true =>
    rw [insL_old h]
    unfold HAt at h
    simp only [Bool.and_eq_true, decide_eq_true_eq] at h
    omega
  | false => rw [insL_new_length h]; omega
/-- A few in memory: its block, its row. -/
structure FewAt (w : World) (base B : Nat) (v : Value) (most : Nat) (l : List C3) : Prop where
  blk : w.heap[B]? = some (.cells #[.int .i64 most, v] 96 (0, 0))
  own : w.ownsRow base 101 3 v l.length (cells3 l)
def Foot (B : Nat) (v : Value) : Nat → Prop := fun k => k = B ∨ v.ownBlock = some k
theorem FewAt.ne {w : World} {base B : Nat} {v : Value} {most : Nat} {l : List C3} (h : FewAt w base B v most l) {g : Nat} (hg : v.ownBlock = some g) : g ≠ B := by
  intro e
  subst e
  rcases h.own.2 with ⟨rfl, _⟩ | ⟨g', cap, cur, rfl, hb, hgg, rest⟩
  · simp [Value.ownBlock] at hg
  · simp [Value.ownBlock] at hg
    subst hg
    have := hgg.symm.trans h.blk
    simp at this
theorem FewAt.kept {w W : World} {base B : Nat} {v : Value} {most : Nat} {l : List C3} {S : Nat → Prop} (h : FewAt w base B v most l) (k : Kx w W S) (hn : ∀ g, Foot B v g → ¬ S g) : FewAt W base B v most l :=
  ⟨(k.block B (blk_lt h.blk) (hn B (.inl rfl))).trans h.blk, k.own h.own (fun g hg => hn g (.inr hg))⟩
def PutOwn (w : World) (base B : Nat) (v : Value) (most : Nat) (l : List C3) (x : C3) (e : Ending) (w' : World) : Prop :=
  ∃ v', e = .returned (.bool (decide (pos l x < most))) ∧ FewAt w' base B v' most ((insL l x).take most) ∧ Kx w w' (Foot B v) ∧ (v'.ownBlock = v.ownBlock ∨ ∃ k, v'.ownBlock = some k ∧ w.heap.size ≤ k)
set_option maxHeartbeats 4000000 in
theorem put_own (base B : Nat) (v : Value) (most : Nat) (l : List C3) (hs : Srt l) (h lo mx : Int) (w : World) (hF : FewAt w base B v most l) (hl : l.length ≤ most) (hm1 : most ≤ 1000) (hbase : base ≤ w.heap.size) (hm : sample_Mix.f h lo = some mx) :
    Calls Tryd.prog 30 #[.pointer (some ⟨B, 0, none⟩), .agg #[.int .u64 h, .int .u64 lo]] w (PutOwn w base B v most l (mx, h, lo)) := by
  have HX := Lib.hid (fun W => sample_Mix.calls h lo mx W hm)
  have HB := Lib.hid (below_alloc (Below.refl _ w) (.cells #[.int .u64 h, .int .u64 lo] 26))
  have HF := Lib.hid hF
  have HG := Lib.hid (blk_alloc hF.blk (.cells #[.int .u64 h, .int .u64 lo] 26))
  have HT := Lib.hid (blk_new w (.cells #[.int .u64 h, .int .u64 lo] 26))
  obtain ⟨W0, hW0⟩ : ∃ W0, W0 = w.alloc (.cells #[.int .u64 h, .int .u64 lo] 26) := ⟨_, rfl⟩
  rw [← hW0] at HB HG HT
  have HNE : Hid (∀ g, v.ownBlock = some g → g ≠ B ∧ g ≠ w.heap.size) := fun g hg => ⟨hF.ne hg, by have := (hF.own.lt g hg).2; omega⟩
  have HS : Hid (∀ W, Kx W0 W (fun k => v.ownBlock = some k) → W.cell? ⟨B, 0, none⟩ = some (.int .i64 most) ∧ W.cell? ⟨B, 1, none⟩ = some v ∧ W.cell? ⟨w.heap.size, 0, none⟩ = some (.int .u64 h) ∧ W.cell? ⟨w.heap.size, 1, none⟩ = some (.int .u64 lo)) := fun W hW => by
    have a := (hW.block B (blk_lt HG.out) (fun e => (HNE.out _ e).1 rfl)).trans HG.out
    have b := (hW.block w.heap.size (blk_lt HT.out) (fun e => (HNE.out _ e).2 rfl)).trans HT.out
    exact ⟨(cell_of_row _ _ 0 _ _ _ a).trans rfl, (cell_of_row _ _ 1 _ _ _ a).trans rfl, (cell_of_row _ _ 0 _ _ _ b).trans rfl, (cell_of_row _ _ 1 _ _ _ b).trans rfl⟩
  have HI : Hid (∀ W, Below W0.heap.size W0 W → Calls Tryd.prog 57 #[v, .agg #[.int .u64 mx, .int .u64 h, .int .u64 lo], .func (.func 58) #[] #[]] W fun e w2 => ∃ g cap n', e = .returned (.tuple #[.slice (some ⟨g, 0, none⟩) n' cap, .int .i64 (pos l (mx, h, lo) : Nat)]) ∧ n' = (insL l (mx, h, lo)).length ∧ n' ≤ cap ∧ w2.ownsRow base 101 3 (.slice (some ⟨g, 0, none⟩) n' cap) n' (cells3 (insL l (mx, h, lo))) ∧ Kx W0 w2 (fun k => v.ownBlock = some k) ∧ (v.ownBlock = some g ∨ w.heap.size ≤ g)) := fun W hb => by
    have hBw : Below w.heap.size w W := HB.out.trans (hb.mono HB.out.size)
    have hsz := hBw.size
    refine (in_own base v l hs (mx, h, lo) W (pw_own_below hF.own hBw) (by omega) (by omega)).mono ?_
    rintro e w2 ⟨v', rfl, ho, hk, hv⟩
    obtain ⟨g, cap, cur, rfl, hbg, hg, hnc, hrest⟩ := ownsRow_some ho (insL_pos _ _)
    refine ⟨g, cap, _, rfl, rfl, hnc, ho, (Kx.of_below hb _).then_ hk (fun k hk => .inl hk), ?_⟩
    rcases hv with h1 | ⟨k, h1, h2⟩
    · exact .inl (by rw [← h1]; rfl)
    · simp [Value.ownBlock] at h1; subst h1; exact .inr (by omega)
  have HEND : Hid (∀ (g cap n' : Nat) (w2 : World), n' = (insL l (mx, h, lo)).length → n' ≤ cap → w2.ownsRow base 101 3 (.slice (some ⟨g, 0, none⟩) n' cap) n' (cells3 (insL l (mx, h, lo))) → Kx W0 w2 (fun k => v.ownBlock = some k) → (v.ownBlock = some g ∨ w.heap.size ≤ g) →
      ∀ m, m = min n' most → PutOwn w base B v most l (mx, h, lo) (.returned (.bool (decide (pos l (mx, h, lo) < most)))) (w2.setCell ⟨B, 1, none⟩ (.slice (some ⟨g, 0, none⟩) m cap)) ∧ w2.heap[B]? = some (.cells #[.int .i64 most, v] 96 (0, 0))) := fun g cap n' w2 hn' hnc ho hk hv m hm => by
    have a := (hk.block B (blk_lt HG.out) (fun e => (HNE.out _ e).1 rfl)).trans HG.out
    have hgB : g ≠ B := by
      rcases hv with h1 | h1
      · exact (HNE.out _ h1).1
      · have := blk_lt hF.blk; omega
    refine ⟨⟨_, rfl, ⟨blk_put a 1 _ rfl, ?_⟩, ?_, ?_⟩, a⟩
    · refine (Kx.setCell w2 _ _).own ?_ (fun k hk e => hgB (by simp [Value.ownBlock] at hk; rw [hk]; exact e))
      obtain ⟨_, _ | ⟨g', cap', cur, e, hbg, hg, hnc', hcm, hcs, htake⟩⟩ := ho
      · rename_i hh; simp at hh
      · simp at e
        obtain ⟨rfl, rfl⟩ := e
        have hml : ((insL l (mx, h, lo)).take most).length = m := by rw [List.length_take, ← hn', hm, Nat.min_comm]
        refine ⟨by rw [cells3_length], .inr ⟨g, cap, cur, by rw [hml], hbg, hg, by rw [hml]; omega, hcm, hcs, ?_⟩⟩
        rw [hml, ← cells3_take, ← htake, List.take_take]
        congr 1
        omega
    · refine ((Kx.of_below HB.out (Foot B v)).then_ hk (fun k hk => .inl (.inr hk))).then_ (Kx.setCell w2 _ _) (fun k hk => .inl (.inl hk))
    · rcases hv with h1 | h1
      · exact .inl (by rw [h1]; rfl)
      · exact .inr ⟨g, rfl, h1⟩
  have HMS := Lib.hid (show most ≤ 1000 from hm1)
  clear hF hl hbase hm hs
  generalize pos l (mx, h, lo) = at_ at *
  go_enter Tryd.func30, Tryd.ntmps30
  go_wp2_with fail
  rw [← hW0]
  clear hW0
  have hq0 := HS.out _ (Kx.of_below (below_drew (Below.refl _ _)) _)
  go_region_held3 (fun W => W.cell? ⟨B, 0, none⟩ = some (.int .i64 most) ∧ W.cell? ⟨B, 1, none⟩ = some v ∧ W.cell? ⟨w.heap.size, 0, none⟩ = some (.int .u64 h) ∧ W.cell? ⟨w.heap.size, 1, none⟩ = some (.int .u64 lo)) (assumption) (first | (go_at_call 12; refine (HX.out _).mono ?_; rintro e w1 ⟨rfl, hb⟩; have HB1 : Hid (Below W0.heap.size W0 w1) := (below_drew (Below.refl W0.heap.size W0)).trans hb; have hq1 := HS.out _ (Kx.of_below HB1.out _); clear hb) | (go_at_call 57; refine (HI.out _ HB1.out).mono ?_; rintro e w2 ⟨g, cap, n', rfl, hn', hnc, ho, hk, hv⟩; have HEN := Lib.hid (fun m hm => HEND.out g cap n' w2 hn' hnc ho hk hv m hm); have HNC := Lib.hid hnc; have hq2 := HS.out _ hk; clear hn' hnc ho hk hv))
  have hc0 := hq2.1
  have hc1 := hq2.2.1
  have hg := (HEN.out _ rfl).2
  have hf := fun j => blk_frozen hg j
  have hnc := HNC.out
  have hm1 := HMS.out
  clear hg hq0 hq1 hq2
  have HE := Lib.hid (HEN.out (min (n' : Int) (most : Int)).toNat (by omega)).1
  go_wp2_with fail
  go_ret
  exact HE.out
end Go.Proofs.YtdlnfmakfnggpaaDoor.Pr
