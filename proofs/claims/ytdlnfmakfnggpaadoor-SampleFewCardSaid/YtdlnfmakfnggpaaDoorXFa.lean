/- SampleFew's walk: what it leans on. -/
import Derived.Test.YtdlnfmakfnggpaaDoorXFs
import Derived.Test.YtdlnfmakfnggpaaDoorXTr
import Derived.Test.YtdlnfmakfnggpaaDoorXAm
namespace Go.Proofs.YtdlnfmakfnggpaaDoor.Pr
open Go.RowKit Go.Lib Go.Proofs.YtdlnfmakfnggpaaDoorW.PrintWords
set_option linter.unusedVariables false
set_option linter.unusedSimpArgs false
def chn (x : S26) : C3 := ((sample_Mix.f x.f0 x.f1).getD 0, x.f0, x.f1)
def chns (l : List S26) : List C3 := l.map chn
set_option maxHeartbeats 4000000 in
set_option maxRecDepth 100000 in
theorem few_bad (most at_ : Int) (A : Option Addr) (n c : Nat) (w : World) (h : most < 2 ∨ 1000 < most) :
    Calls Tryd.prog 10 #[.int .i64 most, .slice A n c, .int .i64 at_] w fun e w' => e = .returned (.bool true) ∧ Below w.heap.size w w' := by
  have HN := Lib.hid (fun W => newfew_bad most h W)
  have HA := Lib.hid (fun W => spoorlaw21_alive.calls true W rfl)
  by_cases h2 : most < 2
  · clear h
    go_enter Tryd.func10, Tryd.ntmps10
    go_wp2_with (first
      | (go_at_call 11; refine (HA.out _).mono ?_; rintro e w1 ⟨rfl, hb⟩; have HB1 := Lib.hid hb; clear hb)
      | (go_at_call 23; refine (HN.out _).mono ?_; rintro e w2 ⟨rfl, hb⟩; have HB2 := Lib.hid (HB1.out.trans (hb.mono HB1.out.size)); clear hb))
    go_ret
    exact ⟨rfl, HB2.out⟩
  · have h3 : 1000 < most := by omega
    clear h
    go_enter Tryd.func10, Tryd.ntmps10
    go_wp2_with (first
      | (go_at_call 11; refine (HA.out _).mono ?_; rintro e w1 ⟨rfl, hb⟩; have HB1 := Lib.hid hb; clear hb)
      | (go_at_call 23; refine (HN.out _).mono ?_; rintro e w2 ⟨rfl, hb⟩; have HB2 := Lib.hid (HB1.out.trans (hb.mono HB1.out.size)); clear hb))
    go_ret
    exact ⟨rfl, HB2.out⟩
def pB (b : Nat) : Value := .pointer (some ⟨b, 0, none⟩)
def arrV (b : Nat → Nat) (i : Nat) : Array Value := #[if 0 < i then pB (b 0) else .pointer none, if 1 < i then pB (b 1) else .pointer none, if 2 < i then pB (b 2) else .pointer none, if 3 < i then pB (b 3) else .pointer none, if 4 < i then pB (b 4) else .pointer none]
theorem arrV_set (b : Nat → Nat) (i B : Nat) (hi : i < 5) : (arrV b i).setIfInBounds i (pB B) = arrV (fun j => if j = i then B else b j) (i + 1) := by
  match i, hi with
  | 0, _ => rfl
  | 1, _ => rfl
  | 2, _ => rfl
  | 3, _ => rfl
  | 4, _ => rfl
theorem arrV_none (b : Nat → Nat) (i : Nat) (hi : i < 5) : (arrV b i)[i]? = some (.pointer none) := by
  match i, hi with
  | 0, _ => rfl
  | 1, _ => rfl
  | 2, _ => rfl
  | 3, _ => rfl
  | 4, _ => rfl
theorem fews_zero (w0 W : World) (b : Nat → Nat) (most : Nat) (h : Below w0.heap.size w0 W) : Fews 0 w0 W b most (fun _ => []) := ⟨h, fun _ => .slice none 0 0, fun i hi => absurd hi (Nat.not_lt_zero _), fun i hi => absurd hi (Nat.not_lt_zero _)⟩
theorem fews_new {w0 W W' : World} {b : Nat → Nat} {most i B : Nat} (h : Fews i w0 W b most (fun _ => [])) (hB : W.heap.size ≤ B) (hblk : W'.heap[B]? = some (.cells #[.int .i64 most, .slice none 0 0] 96 (0, 0))) (hb : Below W.heap.size W W') :
    Fews (i + 1) w0 W' (fun j => if j = i then B else b j) most (fun _ => []) := by
  obtain ⟨hb0, v, hf, hd⟩ := h
  refine ⟨hb0.trans (hb.mono hb0.size), fun j => if j = i then .slice none 0 0 else v j, fun j hj => ?_, fun j hj j' hj' hne k hk1 hk2 => ?_⟩
  · by_cases e : j = i
    · simp only [if_pos e]
      exact ⟨Nat.le_trans hb0.size hB, ⟨hblk, World.ownsRow_nil _ _ _ _⟩, srt_nil, Nat.zero_le _, fun c hc => by simp at hc⟩
    · simp only [if_neg e]
      exact ⟨(hf j (by omega)).1, (hf j (by omega)).2.1.kept (Kx.of_below hb (fun _ => False)) (fun _ _ h => h), (hf j (by omega)).2.2⟩
  · by_cases e : j = i
    · simp only [if_pos e] at hk1
      rcases hk1 with rfl | hk1
      · simp only [if_neg (show j' ≠ i by omega)] at hk2
        have := foot_lt (hf j' (by omega)).2.1 _ hk2
        omega
      · simp [Value.ownBlock] at hk1
    · simp only [if_neg e] at hk1
      by_cases e2 : j' = i
      · simp only [if_pos e2] at hk2
        rcases hk2 with rfl | hk2
        · have := foot_lt (hf j (by omega)).2.1 _ hk1
          omega
        · simp [Value.ownBlock] at hk2
      · simp only [if_neg e2] at hk2
        exact hd j (by omega) j' (by omega) hne k hk1 hk2
theorem fews_set75 {N : Nat} {w0 W : World} {b : Nat → Nat} {most : Nat} {L : Nat → List C3} (h : Fews N w0 W b most L) {T : Nat} {cs : Array Value} (hT : W.heap[T]? = some (.cells cs 75 (0, 0))) (hge : w0.heap.size ≤ T) (j : Nat) (u : Value) : Fews N w0 (W.setCell ⟨T, j, none⟩ u) b most L := by
  refine h.kept (Kx.setCell W _ _) (fun k hk => by rw [hk]; exact hge) (fun i hi v hF k hk e => ?_)
  have e : k = T := e
  subst e
  rcases hk with rfl | hv
  · have := hT.symm.trans hF.blk
    simp at this
  · rcases hF.own.2 with ⟨rfl, _⟩ | ⟨g', cap, cur, rfl, hbg, hgg, _⟩
    · simp [Value.ownBlock] at hv
    · simp [Value.ownBlock] at hv
      subst hv
      have := hT.symm.trans hgg
      simp at this
theorem few_cells {w W : World} {T n : Nat} (b : Nat → Nat) {ad : Addr} {l : List S26} (hb : Below w.heap.size w W) (hr : Kd.C k26 w (some ad) n l) (hT : W.heap[T]? = some (.cells (arrV b 5) 75 (0, 0))) (j : Nat) (hj : j < 5) (k : Nat) (hk : k < n) :
    W.cell? ⟨T, j, none⟩ = some (.pointer (some ⟨b j, 0, none⟩)) ∧ W.cell? (ad.add (k * 2)) = some (.int .u64 (rd_T26 l (k : Int)).f0) ∧ W.cell? ⟨(ad.add (k * 2)).block, (ad.add (k * 2)).off + 1, none⟩ = some (.int .u64 (rd_T26 l (k : Int)).f1) := by
  obtain ⟨ad', e, e0, e1⟩ := at_T26 (Kd.C_below hr hb) (k : Int) (by omega) (by omega)
  injection e with e
  subst e
  refine ⟨(blk_cell hT j).trans ?_, e0, e1⟩
  match j, hj with
  | 0, _ => rfl
  | 1, _ => rfl
  | 2, _ => rfl
  | 3, _ => rfl
  | 4, _ => rfl
theorem chns_at (l : List S26) (k : Nat) (hk : k < l.length) : (chns l)[k]! = chn (rd_T26 l (k : Int)) := by
  rw [getElem!_pos (chns l) k (by unfold chns; simpa using hk)]
  simp [chns, rd_T26, List.getD, hk]
theorem arr_cell {W : World} {T : Nat} (b : Nat → Nat) (hT : W.heap[T]? = some (.cells (arrV b 5) 75 (0, 0))) (j : Nat) (hj : j < 5) : W.cell? ⟨T, j, none⟩ = some (.pointer (some ⟨b j, 0, none⟩)) := by
  refine (blk_cell hT j).trans ?_
  match j, hj with
  | 0, _ => rfl
  | 1, _ => rfl
  | 2, _ => rfl
  | 3, _ => rfl
  | 4, _ => rfl
theorem few_put_at {w : World} {l : List S26} {n most : Nat} {b : Nat → Nat} (hmx : ∀ x ∈ l, sample_Mix.f x.f0 x.f1 = some (chn x).1) (hn : l.length = n) (h1 : most ≤ 1000) (W : World) (L : Nat → List C3) (j k : Nat) (hj : j < 5) (hk : k < n) (h : Fews 5 w W b most L) :
    Calls Tryd.prog 30 #[.pointer (some ⟨b j, 0, none⟩), .agg #[.int .u64 (rd_T26 l (k : Int)).f0, .int .u64 (rd_T26 l (k : Int)).f1]] W fun e W' => ∃ bb, e = .returned (.bool bb) ∧ Fews 5 w W' b most (upd L j ((insL (L j) (chns l)[k]!).take most)) ∧ Far75 W W' := by
  have hk' : k < l.length := by omega
  have hm := hmx (rd_T26 l (k : Int)) (by simp [rd_T26, List.getD, hk'])
  rw [chns_at l k hk']
  exact fews_put h h1 j hj _ _ _ hm
/-- The five lists when i names have been put in. -/
def L2 (X : List C3) (most m i : Nat) : Nat → List C3 := fun j => if j = 0 then puts most [] (X.take i) else if j = 1 then puts most [] (X.reverse.take i) else if j = 2 then puts most [] ((X.take m).take i) else puts most [] ((X.drop m).take (i - m))
def putAt (most : Nat) (L : Nat → List C3) (j : Nat) (x : C3) : Nat → List C3 := upd L j ((insL (L j) x).take most)
theorem rev_at (X : List C3) (i : Nat) (h : i < X.length) : X.reverse[i]! = X[X.length - 1 - i]! := by
  rw [getElem!_pos X.reverse i (by simpa using h), getElem!_pos X _ (by omega), List.getElem_reverse]
theorem step_lt (X : List C3) (most m i : Nat) (hi : i < X.length) (him : i < m) : ∀ j, j < 5 → putAt most (putAt most (putAt most (L2 X most m i) 0 X[i]!) 1 X[X.length - 1 - i]!) 2 X[i]! j = L2 X most m (i + 1) j := fun j hj => by
  have e2 : (X.take m)[i]! = X[i]! := by
    rw [getElem!_pos (X.take m) i (by rw [List.length_take]; omega), getElem!_pos X i hi]; simp
  have e3 : i + 1 - m = i - m := by omega
  match j, hj with
  | 0, _ => simp [putAt, upd, L2, puts_succ most [] X i hi]
  | 1, _ => simp [putAt, upd, L2, puts_succ most [] X.reverse i (by simpa using hi), rev_at X i hi]
  | 2, _ => simp only [putAt, upd, L2, puts_succ most [] (X.take m) i (by rw [List.length_take]; omega), e2]; simp
  | 3, _ => simp [putAt, upd, L2, e3]
  | 4, _ => simp [putAt, upd, L2, e3]
theorem step_ge (X : List C3) (most m i : Nat) (hi : i < X.length) (him : ¬ i < m) : ∀ j, j < 5 → putAt most (putAt most (putAt most (putAt most (L2 X most m i) 0 X[i]!) 1 X[X.length - 1 - i]!) 3 X[i]!) 4 X[i]! j = L2 X most m (i + 1) j := fun j hj => by
  have e2 : (X.drop m)[i - m]! = X[i]! := by
    rw [getElem!_pos (X.drop m) (i - m) (by rw [List.length_drop]; omega), getElem!_pos X i hi, List.getElem_drop]
    congr 1; omega
  have e3 : i + 1 - m = (i - m) + 1 := by omega
  have e4 : (X.take m).take (i + 1) = (X.take m).take i := by rw [List.take_take, List.take_take]; congr 1; omega
  match j, hj with
  | 0, _ => simp [putAt, upd, L2, puts_succ most [] X i hi]
  | 1, _ => simp [putAt, upd, L2, puts_succ most [] X.reverse i (by simpa using hi), rev_at X i hi]
  | 2, _ => simp only [putAt, upd, L2, e4]; simp
  | 3, _ => simp only [putAt, upd, L2, e3, puts_succ most [] (X.drop m) (i - m) (by rw [List.length_drop]; omega), e2]; simp
  | 4, _ => simp only [putAt, upd, L2, e3, puts_succ most [] (X.drop m) (i - m) (by rw [List.length_drop]; omega), e2]; simp
theorem L2_zero (X : List C3) (most m : Nat) : ∀ j, j < 5 → ([] : List C3) = L2 X most m 0 j := fun j hj => by
  match j, hj with
  | 0, _ => simp [L2, puts]
  | 1, _ => simp [L2, puts]
  | 2, _ => simp [L2, puts]
  | 3, _ => simp [L2, puts]
  | 4, _ => simp [L2, puts]
def L3 (X : List C3) (most m n i : Nat) : Nat → List C3 := fun j => if j = 1 then puts most (puts most [] X.reverse) (X.take i) else L2 X most m n j
theorem L3_zero (X : List C3) (most m : Nat) : ∀ j, j < 5 → L2 X most m X.length j = L3 X most m X.length 0 j := fun j hj => by
  have e : X.reverse.take X.length = X.reverse := List.take_of_length_le (by simp)
  match j, hj with
  | 0, _ => simp [L3]
  | 1, _ => simp [L3, L2, e, puts]
  | 2, _ => simp [L3]
  | 3, _ => simp [L3]
  | 4, _ => simp [L3]
theorem step3 (X : List C3) (most m n i : Nat) (hi : i < X.length) : ∀ j, j < 5 → putAt most (L3 X most m n i) 1 X[i]! j = L3 X most m n (i + 1) j := fun j hj => by
  match j, hj with
  | 0, _ => simp [putAt, upd, L3]
  | 1, _ => simp [putAt, upd, L3, puts_succ most _ X i hi]
  | 2, _ => simp [putAt, upd, L3]
  | 3, _ => simp [putAt, upd, L3]
  | 4, _ => simp [putAt, upd, L3]
/-- In the end. -/
def LF (X : List C3) (most m : Nat) : Nat → List C3 := fun j => if j < 4 then top most X else top most (X.drop m)
theorem end_lists (X : List C3) (most m : Nat) (hm : m ≤ X.length) :
    ∀ j, j < 5 → upd (upd (L3 X most m X.length X.length) 3 (puts most (L3 X most m X.length X.length 3) (L3 X most m X.length X.length 2))) 2
      (puts most (upd (L3 X most m X.length X.length) 3 (puts most (L3 X most m X.length X.length 3) (L3 X most m X.length X.length 2)) 2) (upd (L3 X most m X.length X.length) 3 (puts most (L3 X most m X.length X.length 3) (L3 X most m X.length X.length 2)) 4)) j = LF X most m j := fun j hj => by
  have a2 : (X.take m).take X.length = X.take m := List.take_of_length_le (by rw [List.length_take]; omega)
  have a3 : (X.drop m).take (X.length - m) = X.drop m := List.take_of_length_le (by rw [List.length_drop]; omega)
  have t2 : L3 X most m X.length X.length 2 = top most (X.take m) := by simp only [L3, L2, a2, puts_nil]; simp
  have t3 : L3 X most m X.length X.length 3 = top most (X.drop m) := by simp only [L3, L2, a3, puts_nil]; simp
  have t4 : L3 X most m X.length X.length 4 = top most (X.drop m) := by simp only [L3, L2, a3, puts_nil]; simp
  have t0 : L3 X most m X.length X.length 0 = top most X := by simp only [L3, L2, puts_nil, List.take_length]; simp
  have t1 : L3 X most m X.length X.length 1 = top most X := by
    show puts most (puts most [] X.reverse) (X.take X.length) = _
    rw [List.take_length, ← puts_append, puts_nil]
    exact top_set most (fun y => by simp)
  have s3 : top most (X.drop m ++ X.take m) = top most X := top_set most (fun y => by
    rw [List.mem_append, Or.comm, ← List.mem_append, List.take_append_drop])
  have s2 : top most (X.take m ++ X.drop m) = top most X := by rw [List.take_append_drop]
  match j, hj with
  | 0, _ => simp [upd, LF, t0]
  | 1, _ => simp [upd, LF, t1]
  | 2, _ => simp [upd, LF, t2, t4, puts_top, s2]
  | 3, _ => simp [upd, LF, t3, t2, puts_top, s3]
  | 4, _ => simp [upd, LF, t4]
end Go.Proofs.YtdlnfmakfnggpaaDoor.Pr
