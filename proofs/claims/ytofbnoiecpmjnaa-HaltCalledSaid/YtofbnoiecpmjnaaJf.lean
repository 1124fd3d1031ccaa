/- Stops in a tree: one more is made beneath one of them. -/
import Derived.Test.YtofbnoiecpmjnaaJd
import Derived.Test.YtofbnoiecpmjnaaJe
namespace Go.Proofs.Ytofbnoiecpmjnaa.Pr
open Go.RowKit Go.Proofs.YtofbnoiecpmjnaaW.PrintWords Go.Proofs.YtofbnoiecpmjnaaW.PrintLast Go.Proofs.YtofbnoiecpmjnaaW.PrintMore Go.MuLone
open Go.Lib
set_option linter.unusedVariables false
set_option linter.unusedSimpArgs false
def UnderPost3 (w0 : World) (m g : Nat) (s : SR) (kids : List Nat) (n : Int) (W : World) (e : Ending) (w' : World) : Prop :=
  ∃ v1 : Value, e = .returned (.tuple #[.pointer (some ⟨W.heap.size + 2, 0, none⟩), .int .i64 0]) ∧ IsMu w' m ∧ IsStop w' m g { s with und := v1 } ∧ IsStop w' m (W.heap.size + 2) { underSR g n (W.heap.size + 1) with why := s.why } ∧ IsCh w' (W.heap.size + 1) (decide (s.why ≠ 0)) ∧
    Kd.R kP 25 w' w0.heap.size T1 v1 (kids ++ [W.heap.size + 2]) ∧ Below w0.heap.size w0 w' ∧ (∀ k, k < W.heap.size → k ≠ g → k ≠ m → some k ≠ s.und.ownBlock → w'.heap[k]? = W.heap[k]?) ∧ W.heap.size + 3 ≤ w'.heap.size ∧
    (v1.ownBlock = s.und.ownBlock ∨ ∃ b, v1.ownBlock = some b ∧ W.heap.size + 3 ≤ b)
theorem under_any (w0 : World) (m g : Nat) (s : SR) (kids : List Nat) (n : Int) (W : World) (hn : 0 ≤ n) (hm : IsMu W m) (hs : IsStop W m g s) (hR : Kd.R kP 25 W w0.heap.size T1 s.und kids) (hB : Below w0.heap.size w0 W) (hmb : w0.heap.size ≤ m) (hgb : w0.heap.size ≤ g) (hk : kids.length ≤ 17592186044415) :
    Calls Try.prog 10 #[.pointer (some ⟨g, 0, none⟩), .int .i64 n] W fun e w' => UnderPost3 w0 m g s kids n W e w' := by
  by_cases hw : s.why = 0
  · refine (under_free w0 m g s kids n W hn hm hs hw hR hB hmb hgb hk).mono ?_
    rintro e w' ⟨v1, q0, q1, q2, q3, q4, q5, q6, q7, q8, q9⟩
    refine ⟨v1, q0, q1, q2, ?_, ?_, q5, q6, q7, q8, q9⟩
    · rw [hw]; exact q3
    · rw [decide_eq_false (by simpa using hw)]; exact q4
  · refine (under_cut w0 m g s kids n W hn hm hs hw hR hB hmb hgb hk).mono ?_
    rintro e w' ⟨v1, q0, q1, q2, q3, q4, q5, q6, q7, q8, q9⟩
    exact ⟨v1, q0, q1, q2, q3, by rw [decide_eq_true hw]; exact q4, q5, q6, q7, q8, q9⟩
theorem row_keep {α : Type} {d : Kd α} {e base : Nat} {W w' : World} {v : Value} {xs : List α} (hE : d.E = []) (h : Kd.R d e W base T1 v xs) (hk : ∀ k, v.ownBlock = some k → w'.heap[k]? = W.heap[k]?) : Kd.R d e w' base T1 v xs :=
  Kd.R_mono (Kd.R_move (Kd.R_tight hE h) (fun k hk' => hk k hk'.symm)) (fun _ _ => trivial)
/-- A row of pointers or numbers that is not the stop's own is as before. -/
theorem under_row {α : Type} {d : Kd α} {e base : Nat} {w0 W w' : World} {m g : Nat} {s : SR} {v : Value} {xs : List α} (hE : d.E = []) (he : e ≠ 70 ∧ e ≠ 66) (h : Kd.R d e W base T1 v xs) (hs : IsStop W m g s) (hm : IsMu W m)
    (hk : ∀ k, k < W.heap.size → k ≠ g → k ≠ m → some k ≠ s.und.ownBlock → w'.heap[k]? = W.heap[k]?) (hoff : v.ownBlock = none ∨ s.und.ownBlock = none ∨ s.und.ownBlock ≠ v.ownBlock) : Kd.R d e w' base T1 v xs := by
  refine row_keep hE h (fun k hkv => ?_)
  obtain ⟨cells, hc⟩ := Kd.R_typed h k hkv
  refine hk k (lt_of hc) (is_row_ne hc he.1 hs) (is_row_ne_mu hc he.2 hm) (fun e => ?_)
  rcases hoff with h1 | h1 | h1
  · rw [hkv] at h1; cases h1
  · rw [← e] at h1; cases h1
  · exact h1 (e.symm.trans hkv.symm)
theorem kids_more (up : List Nat) (k i : Nat) (hup : 0 < up.length) : kidsOf (up ++ [k]) i = if i = k then kidsOf up i ++ [up.length] else kidsOf up i := by
  unfold kidsOf
  rw [List.length_append, List.length_singleton, List.range_succ, List.filter_append]
  have e1 : (List.range up.length).filter (fun n => decide (0 < n ∧ (up ++ [k]).getD n 0 = i)) = (List.range up.length).filter (fun n => decide (0 < n ∧ up.getD n 0 = i)) := by
    apply List.filter_congr
    intro n hn
    have hn' : n < up.length := List.mem_range.1 hn
    have : (up ++ [k]).getD n 0 = up.getD n 0 := by simp [List.getD, List.getElem?_append_left hn']
    rw [this]
  have e2 : (up ++ [k]).getD up.length 0 = k := by simp [List.getD]
  rw [e1]
  by_cases h : i = k
  · subst h
    rw [if_pos rfl]
    simp [e2, hup]
  · rw [if_neg h]
    have : ¬ k = i := fun e => h e.symm
    simp [e2, this]
/-- One more stands beneath k; k's row is another one. -/
def more (st : List PL) (k : Nat) (v1 : Value) (p : PL) : List PL := st.mapIdx (fun i x => if i = k then { x with u := v1 } else x) ++ [p]
theorem more_len (st : List PL) (k : Nat) (v1 : Value) (p : PL) : (more st k v1 p).length = st.length + 1 := by simp [more]
theorem more_get {st : List PL} {k i : Nat} {v1 : Value} {p x : PL} (h : (more st k v1 p)[i]? = some x) : (i = st.length ∧ x = p) ∨ ∃ y, st[i]? = some y ∧ i < st.length ∧ x = if i = k then { y with u := v1 } else y := by
  have hl := (List.getElem?_eq_some_iff.1 h).1
  rw [more_len] at hl
  by_cases hi : i < st.length
  · refine .inr ⟨st[i], by simp, hi, ?_⟩
    rw [more, List.getElem?_append_left (by simpa using hi)] at h
    simp [hi] at h
    exact h.symm
  · have : i = st.length := by omega
    subst this
    refine .inl ⟨rfl, ?_⟩
    rw [more, List.getElem?_append_right (by simp)] at h
    simp at h
    exact h.symm
theorem more_g (st : List PL) (k : Nat) (v1 : Value) (p : PL) : (more st k v1 p).map PL.g = st.map PL.g ++ [p.g] := by
  rw [more, List.map_append]
  congr 1
  apply List.ext_getElem (by simp)
  intro i h1 h2
  simp
  split <;> rfl
def TreeMade (w0 : World) (m : Nat) (st : List PL) (up : List Nat) (Y : List Int) (k : Nat) (W : World) (e : Ending) (w' : World) : Prop :=
  ∃ v1 : Value, e = .returned (.tuple #[.pointer (some ⟨W.heap.size + 2, 0, none⟩), .int .i64 0]) ∧ TH 0 w0 w' m (more st k v1 ⟨W.heap.size + 2, W.heap.size + 1, .slice none 0 0⟩) (up ++ [k]) (Y ++ [Y.getD k 0]) ∧
    (∀ {α : Type} (d : Kd α) (e base : Nat) (v : Value) (xs : List α), d.E = [] → e ≠ 70 ∧ e ≠ 66 → Kd.R d e W base T1 v xs → (e ≠ 25 ∨ ∀ x ∈ st, x.u.ownBlock = none ∨ x.u.ownBlock ≠ v.ownBlock) → Kd.R d e w' base T1 v xs) ∧
    (∀ v : Value, (∀ b, v.ownBlock = some b → b < W.heap.size) → (∀ x ∈ st, x.u.ownBlock = none ∨ x.u.ownBlock ≠ v.ownBlock) → ∀ x ∈ more st k v1 ⟨W.heap.size + 2, W.heap.size + 1, .slice none 0 0⟩, x.u.ownBlock = none ∨ x.u.ownBlock ≠ v.ownBlock)
theorem TH.u_of {b : Int} {w0 W : World} {m : Nat} {st : List PL} {up : List Nat} {Y : List Int} (h : TH b w0 W m st up Y) : ∀ x ∈ st, ∀ k, x.u.ownBlock = some k → k < W.heap.size ∧ ∃ cells, W.heap[k]? = some (.cells cells 25 (0, 0)) := by
  intro x hx k hk
  obtain ⟨i, hi⟩ := List.getElem?_of_mem hx
  obtain ⟨cells, hc⟩ := Kd.R_typed (h.at_ i x hi).2.2.2.2 k hk
  exact ⟨lt_of hc, cells, hc⟩
set_option maxHeartbeats 1000000 in
theorem TH.under {w0 W : World} {m : Nat} {st : List PL} {up : List Nat} {Y : List Int} (h : TH 0 w0 W m st up Y) (k : Nat) (hk : k < st.length) (hlen : st.length ≤ 17592186044415) :
    Calls Try.prog 10 #[.pointer (some ⟨gOf st k, 0, none⟩), .int .i64 0] W fun e w' => TreeMade w0 m st up Y k W e w' := by
  obtain ⟨x, hx⟩ : ∃ x, st[k]? = some x := ⟨st[k], by simp⟩
  rw [gOf_eq hx]
  obtain ⟨p1, p2, p3, p4, p5⟩ := h.at_ k x hx
  have hkl : ((kidsOf up k).map (gOf st)).length ≤ 17592186044415 := by
    rw [List.length_map]
    have h1 : (kidsOf up k).length ≤ (List.range up.length).length := List.length_filter_le _ _
    rw [List.length_range] at h1
    have h2 := h.len
    omega
  refine (under_any w0 m x.g (srT st up Y k x) _ 0 W (by omega) h.isMu p1 p5 h.below h.mb p3 hkl).mono ?_
  rintro e w' ⟨v1, rfl, q1, q2, q3, q4, q5, q6, q7, q8, q9⟩
  have hund : (srT st up Y k x).und = x.u := rfl
  rw [hund] at q7 q9
  have hz := h.below.size
  have hup0 : 0 < up.length := by rw [h.len]; omega
  have hY : (srT st up Y k x).why = Y.getD k 0 := rfl
  rw [hY] at q3 q4
  have rowk : ∀ {α : Type} (d : Kd α) (e base : Nat) (v : Value) (xs : List α), d.E = [] → e ≠ 70 ∧ e ≠ 66 → Kd.R d e W base T1 v xs → (v.ownBlock = none ∨ x.u.ownBlock = none ∨ x.u.ownBlock ≠ v.ownBlock) → Kd.R d e w' base T1 v xs :=
    fun d e base v xs hE he hR ho => under_row (w0 := w0) hE he hR p1 h.isMu q7 ho
  refine ⟨v1, rfl, ⟨?_, ?_, q1, h.mb, q6, ?_, ?_, ?_, ?_⟩, ?_, ?_⟩
  · rw [more_len]; simp [h.len]
  · rw [more_len]; simp [h.lenY]
  · intro i z hi
    rcases more_get hi with ⟨rfl, rfl⟩ | ⟨y, hy, hil, rfl⟩
    · have eY : (Y ++ [Y.getD k 0]).getD st.length 0 = Y.getD k 0 := by rw [← h.lenY]; simp [List.getD]
      have eU : (up ++ [k]).getD st.length 0 = k := by rw [← h.len]; simp [List.getD]
      refine ⟨?_, ?_, by show w0.heap.size ≤ W.heap.size + 2; omega, by show w0.heap.size ≤ W.heap.size + 1; omega, ?_⟩
      · have e : srT (more st k v1 ⟨W.heap.size + 2, W.heap.size + 1, .slice none 0 0⟩) (up ++ [k]) (Y ++ [Y.getD k 0]) st.length ⟨W.heap.size + 2, W.heap.size + 1, .slice none 0 0⟩ = { underSR x.g 0 (W.heap.size + 1) with why := Y.getD k 0 } := by
          have hne : ¬ st.length = 0 := by omega
          have eg : ((more st k v1 ⟨W.heap.size + 2, W.heap.size + 1, .slice none 0 0⟩).map PL.g).getD k 0 = x.g := by
            rw [more_g]
            have : (st.map PL.g ++ [W.heap.size + 2]).getD k 0 = (st.map PL.g).getD k 0 := by simp [List.getD, List.getElem?_append_left (show k < (st.map PL.g).length by simpa using hk)]
            rw [this]; exact gOf_eq hx
          simp only [srT, eY, eU, eg, if_neg hne]
          rfl
        rw [e]; exact q3
      · rw [eY]; exact q4
      · have ek : kidsOf (up ++ [k]) st.length = [] := by
          rw [kids_more up k _ hup0, if_neg (by omega)]
          apply List.filter_eq_nil_iff.2
          intro n hn hh
          have hn' : n < up.length := List.mem_range.1 hn
          simp at hh
          have h1 := h.ups n hh.1 (by rw [← h.len]; exact hn')
          have h2 : up.getD n 0 = st.length := by simpa [List.getD] using hh.2
          rw [h.len] at hn'
          omega
        rw [ek]
        exact Kd.R_nil _ _ _ _ _
    · have eY : (Y ++ [Y.getD k 0]).getD i 0 = Y.getD i 0 := by simp [List.getD, List.getElem?_append_left (show i < Y.length by rw [h.lenY]; exact hil)]
      have eU : (up ++ [k]).getD i 0 = up.getD i 0 := by simp [List.getD, List.getElem?_append_left (show i < up.length by rw [h.len]; exact hil)]
      have eA : (if i = 0 then none else some (((more st k v1 ⟨W.heap.size + 2, W.heap.size + 1, .slice none 0 0⟩).map PL.g).getD (up.getD i 0) 0)) = (if i = 0 then none else some ((st.map PL.g).getD (up.getD i 0) 0)) := by
        by_cases h0 : i = 0
        · rw [if_pos h0, if_pos h0]
        · rw [if_neg h0, if_neg h0, more_g]
          have := h.ups i (by omega) hil
          have : (st.map PL.g ++ [W.heap.size + 2]).getD (up.getD i 0) 0 = (st.map PL.g).getD (up.getD i 0) 0 := by
            simp only [List.getD]
            rw [List.getElem?_append_left (by rw [List.length_map]; show up.getD i 0 < st.length; omega)]
          rw [this]
      have eG : ∀ l : List Nat, (∀ n ∈ l, n < st.length) → l.map (gOf (more st k v1 ⟨W.heap.size + 2, W.heap.size + 1, .slice none 0 0⟩)) = l.map (gOf st) := by
        intro l hl
        apply List.map_congr_left
        intro n hn
        have := hl n hn
        unfold gOf
        rw [more_g]
        simp only [List.getD]
        rw [List.getElem?_append_left (by rw [List.length_map]; exact this)]
      have hkm : ∀ n ∈ kidsOf up i, n < st.length := fun n hn => by have := (mem_kids hn).2.1; rw [h.len] at this; exact this
      by_cases hik : i = k
      · subst hik
        rw [hx] at hy; cases hy
        rw [if_pos rfl]
        refine ⟨?_, ?_, p3, p4, ?_⟩
        · have e : srT (more st i v1 ⟨W.heap.size + 2, W.heap.size + 1, .slice none 0 0⟩) (up ++ [i]) (Y ++ [Y.getD i 0]) i { x with u := v1 } = { srT st up Y i x with und := v1 } := by
            simp only [srT, eY, eU, eA]
          rw [e]; exact q2
        · rw [eY]
          exact (q7 x.c (lt_of p2) (Ne.symm (stop_ne_ch p1 p2)) (ch_ne_mu p2 h.isMu) (fun e => by
            obtain ⟨cells, hc⟩ := Kd.R_typed p5 x.c e.symm
            unfold IsCh chObj at p2; rw [p2] at hc; cases hc)).trans p2
        · rw [kids_more up i i hup0, if_pos rfl, List.map_append, eG _ hkm]
          have : [up.length].map (gOf (more st i v1 ⟨W.heap.size + 2, W.heap.size + 1, .slice none 0 0⟩)) = [W.heap.size + 2] := by
            simp [gOf, more_g, h.len, List.getD]
          rw [this]
          exact q5
      · rw [if_neg hik]
        obtain ⟨r1, r2, r3, r4, r5⟩ := h.at_ i y hy
        obtain ⟨n1, n2⟩ := apart_g h.apart hik hy hx
        have hrow := h.rows k i x y (fun e => hik e.symm) hx hy
        refine ⟨?_, ?_, r3, r4, ?_⟩
        · have e : srT (more st k v1 ⟨W.heap.size + 2, W.heap.size + 1, .slice none 0 0⟩) (up ++ [k]) (Y ++ [Y.getD k 0]) i y = srT st up Y i y := by
            simp only [srT, eY, eU, eA]
          rw [e]
          exact (q7 y.g (lt_of r1) n1 (ne_mu r1 h.isMu) (Kd.R_ne p5 r1 (by decide))).trans r1
        · rw [eY]
          exact (q7 y.c (lt_of r2) (Ne.symm (stop_ne_ch p1 r2)) (ch_ne_mu r2 h.isMu) (fun e => by
            obtain ⟨cells, hc⟩ := Kd.R_typed p5 y.c e.symm
            unfold IsCh chObj at r2; rw [r2] at hc; cases hc)).trans r2
        · rw [kids_more up k i hup0, if_neg hik, eG _ hkm]
          exact rowk kP 25 _ _ _ rfl (by decide) r5 (.inr hrow)
  · intro i j y z hij hy hz'
    rcases more_get hz' with ⟨rfl, rfl⟩ | ⟨z', hz1, hjl, rfl⟩
    · rcases more_get hy with ⟨rfl, rfl⟩ | ⟨y', hy1, hil, rfl⟩
      · omega
      · obtain ⟨r1, r2, _⟩ := h.at_ i y' hy1
        have s1 := lt_of r1
        have s2 := lt_of r2
        split
        · exact ⟨by show y'.g < W.heap.size + 2; omega, by show y'.c ≠ W.heap.size + 1; omega⟩
        · exact ⟨by show y'.g < W.heap.size + 2; omega, by show y'.c ≠ W.heap.size + 1; omega⟩
    · rcases more_get hy with ⟨rfl, rfl⟩ | ⟨y', hy1, hil, rfl⟩
      · omega
      · have := h.apart i j y' z' hij hy1 hz1
        split <;> split <;> exact this
  · have hfresh : ∀ (i : Nat) (y' : PL), i ≠ k → st[i]? = some y' → y'.u.ownBlock = none ∨ (y'.u.ownBlock ≠ v1.ownBlock) := by
      intro i y' hik hy
      cases hu : y'.u.ownBlock with
      | none => exact .inl rfl
      | some b =>
        refine .inr (fun e => ?_)
        have hb := (h.u_of y' (List.mem_of_getElem? hy) b hu).1
        rcases q9 with q9 | ⟨b', q9, q10⟩
        · have := h.rows i k y' x hik hy hx
          rw [hu] at this
          rcases this with t | t
          · cases t
          · exact t (e.trans q9)
        · rw [q9] at e; cases e; omega
    intro i j y z hij hy hz'
    rcases more_get hy with ⟨rfl, rfl⟩ | ⟨y', hy1, hil, rfl⟩
    · exact .inl rfl
    · rcases more_get hz' with ⟨rfl, rfl⟩ | ⟨z', hz1, hjl, rfl⟩
      · have hn : (⟨W.heap.size + 2, W.heap.size + 1, .slice none 0 0⟩ : PL).u.ownBlock = none := rfl
        rw [hn]
        cases (if i = k then { y' with u := v1 } else y').u.ownBlock with
        | none => exact .inl rfl
        | some b => exact .inr (by simp)
      · by_cases hik : i = k
        · rw [if_pos hik, if_neg (fun e => hij (hik.trans e.symm))]
          rcases hfresh j z' (fun e => hij (hik.trans e.symm)) hz1 with t | t
          · show v1.ownBlock = none ∨ v1.ownBlock ≠ z'.u.ownBlock
            rw [t]
            cases v1.ownBlock with
            | none => exact .inl rfl
            | some b => exact .inr (by simp)
          · exact .inr (fun e => t e.symm)
        · rw [if_neg hik]
          by_cases hjk : j = k
          · rw [if_pos hjk]; exact hfresh i y' hik hy1
          · rw [if_neg hjk]; exact h.rows i j y' z' hij hy1 hz1
  · intro i h1 h2
    rw [more_len] at h2
    by_cases h3 : i < st.length
    · have : (up ++ [k]).getD i 0 = up.getD i 0 := by simp [List.getD, List.getElem?_append_left (show i < up.length by rw [h.len]; exact h3)]
      rw [this]; exact h.ups i h1 h3
    · have : i = st.length := by omega
      subst this
      have : (up ++ [k]).getD st.length 0 = k := by rw [← h.len]; simp [List.getD]
      rw [this]; exact hk
  · intro α d e base v xs hE he hR ho
    refine rowk d e base v xs hE he hR ?_
    rcases ho with ho | ho
    · cases hu : x.u.ownBlock with
      | none => exact .inr (.inl rfl)
      | some b =>
        refine .inr (.inr (fun e' => ?_))
        obtain ⟨_, cells, hc⟩ := h.u_of x (List.mem_of_getElem? hx) b hu
        obtain ⟨cells', hc'⟩ := Kd.R_typed hR b e'.symm
        rw [hc] at hc'; cases hc'; exact ho rfl
    · exact .inr (ho x (List.mem_of_getElem? hx))
  · intro v hv ho z hz'
    obtain ⟨i, hi⟩ := List.getElem?_of_mem hz'
    rcases more_get hi with ⟨rfl, rfl⟩ | ⟨y, hy, hil, rfl⟩
    · exact .inl rfl
    · split
      · show v1.ownBlock = none ∨ v1.ownBlock ≠ v.ownBlock
        rcases q9 with q9 | ⟨b', q9, q10⟩
        · rw [q9]; exact ho x (List.mem_of_getElem? hx)
        · refine .inr (fun e => ?_)
          have := hv b' (e.symm.trans q9)
          omega
      · exact ho y (List.mem_of_getElem? hy)
end Go.Proofs.Ytofbnoiecpmjnaa.Pr
