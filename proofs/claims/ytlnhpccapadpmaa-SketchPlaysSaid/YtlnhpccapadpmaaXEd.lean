/- The rows of bars that are held, written over and grown: what is known of each. -/
import Derived.Test.YtlnhpccapadpmaaXHd
import Derived.Test.YtlnhpccapadpmaaXAk
namespace Go.Proofs.Ytlnhpccapadpmaa.Pr
open Go.RowKit Go.Proofs.YtlnhpccapadpmaaW.PrintWords Go.Proofs.YtlnhpccapadpmaaW.PrintLast Go.Proofs.YtlnhpccapadpmaaW.PrintMore
set_option linter.unusedVariables false
set_option linter.unusedSimpArgs false
theorem C_nil61 (w : World) (A : Option Addr) : Kd.C k61 w A 0 [] := ⟨rfl, by omega, fun h => by omega⟩
/-- The mark that the i-th row is written over with. -/
def mkB (i : Nat) : S61 := ⟨-(i : Int), 0⟩
theorem read_H {base : Nat} {W : World} {go n co : Nat} {L : List Hd} (h : Kd.R kH 31 W base T1 (.slice (some ⟨go, 0, none⟩) n co) L) (x : Nat) (hx : x < n) (d0 : Hd) :
    W.cell? ⟨go, x, none⟩ = some (L.getD x d0).val := by
  obtain ⟨ce, hcl, hM, hcc, hfr⟩ := Kd.R_elem h d0 (x : Int) (by omega) (by omega)
  have hce : ce = [(L.getD (x : Int).toNat d0).val] := hM
  subst hce
  have e1 : (x : Int).toNat * kH.sz + 0 = x := by show x * 1 + 0 = x; omega
  have h1 := hcc 0 _ rfl
  rw [e1] at h1
  exact h1
structure MS (w W : World) (all : List Hd) (Z : Nat → List S61) : Prop where
  below : Below w.heap.size w W
  lst : ∀ (i : Nat) (h : Hd), all[i]? = some h → h.n = (Z i).length ∧ Kd.R k61 61 W w.heap.size T1 h.val (Z i)
  apart : ∀ (i j : Nat) (h h' : Hd), i ≠ j → all[i]? = some h → all[j]? = some h' → h.val.ownBlock = none ∨ h.val.ownBlock ≠ h'.val.ownBlock
theorem MS.more {w W W' : World} {all : List Hd} {Z : Nat → List S61} (h : MS w W all Z) (hb : Below W.heap.size W W') : MS w W' all Z :=
  ⟨h.below.trans (hb.mono h.below.size), fun i x hx => ⟨(h.lst i x hx).1, Kd.R_below (h.lst i x hx).2 hb⟩, h.apart⟩
theorem MS.nil (w W : World) (Z : Nat → List S61) (hB : Below w.heap.size w W) : MS w W [] Z := ⟨hB, fun i h hi => by simp at hi, fun i j h h' _ hi => by simp at hi⟩
theorem MS.push {w W W' : World} {all : List Hd} {Z : Nat → List S61} {x : Hd} (h : MS w W all Z) (hb : Below W.heap.size W W') (hR : Kd.R k61 61 W' W.heap.size T1 x.val (Z all.length)) (hn : x.n = (Z all.length).length) : MS w W' (all ++ [x]) Z := by
  have h' := h.more hb
  have cases_ : ∀ {i : Nat} {y : Hd}, (all ++ [x])[i]? = some y → (all[i]? = some y ∧ i < all.length) ∨ (i = all.length ∧ y = x) := by
    intro i y hi
    by_cases hl : i < all.length
    · rw [List.getElem?_append_left hl] at hi; exact .inl ⟨hi, hl⟩
    · rw [List.getElem?_append_right (by omega)] at hi
      have h1 := (List.getElem?_eq_some_iff.1 hi).1
      simp at h1
      have e : i = all.length := by omega
      subst e
      simp at hi
      exact .inr ⟨rfl, hi.symm⟩
  have ap : ∀ (i : Nat) (y : Hd), all[i]? = some y → y.val.ownBlock = none ∨ y.val.ownBlock ≠ x.val.ownBlock := by
    intro i y hy
    cases hu : y.val.ownBlock with
    | none => exact .inl rfl
    | some k =>
      refine .inr (fun e => ?_)
      have h1 := Kd.R_lt (h.lst i y hy).2 k hu
      have h2 := Kd.R_base hR k e.symm
      omega
  refine ⟨h'.below, fun i y hy => ?_, fun i j y y' hij hy hy' => ?_⟩
  · rcases cases_ hy with ⟨h1, _⟩ | ⟨rfl, rfl⟩
    · exact h'.lst i y h1
    · exact ⟨hn, Kd.R_lower hR h.below.size⟩
  · rcases cases_ hy with ⟨h1, h1l⟩ | ⟨rfl, rfl⟩
    · rcases cases_ hy' with ⟨h2, _⟩ | ⟨rfl, rfl⟩
      · exact h.apart i j y y' hij h1 h2
      · exact ap i y h1
    · rcases cases_ hy' with ⟨h2, h2l⟩ | ⟨rfl, rfl⟩
      · rcases ap j y' h2 with t | t
        · rw [t]
          cases y.val.ownBlock with
          | none => exact .inl rfl
          | some k => exact .inr (by intro e; cases e)
        · exact .inr (fun e => t e.symm)
      · exact absurd rfl hij
/-- What can be read. -/
theorem MS.reads {w W : World} {all : List Hd} {Z : Nat → List S61} (h : MS w W all Z) {i : Nat} {x : Hd} (hx : all[i]? = some x) : x.n = (Z i).length ∧ (Z i).length ≤ x.c ∧ Kd.C k61 W x.A (Z i).length (Z i) := by
  obtain ⟨h1, h2⟩ := h.lst i x hx
  have h3 : Kd.R k61 61 W w.heap.size T1 (.slice x.A x.n x.c) (Z i) := h2
  obtain ⟨_, h4, h5⟩ := Kd.R_reads' h3
  exact ⟨h1, by omega, h5⟩
def setZ (Z : Nat → List S61) (i : Nat) (z : List S61) : Nat → List S61 := fun j => if j = i then z else Z j
theorem MS.write {w W W' : World} {all : List Hd} {Z : Nat → List S61} {i : Nat} {x : Hd} {z : List S61} (h : MS w W all Z) (hx : all[i]? = some x) (hB : Below w.heap.size w W') (hR : Kd.R k61 61 W' w.heap.size T1 x.val z) (hz : z.length = (Z i).length) (hk : ∀ k, k < W.heap.size → some k ≠ x.val.ownBlock → W'.heap[k]? = W.heap[k]?) : MS w W' all (setZ Z i z) := by
  refine ⟨hB, fun j y hy => ?_, h.apart⟩
  obtain ⟨h1, h2⟩ := h.lst j y hy
  by_cases hij : j = i
  · subst hij
    rw [hx] at hy; cases hy
    rw [show setZ Z j z j = z from if_pos rfl]
    exact ⟨by rw [hz]; exact h1, hR⟩
  · rw [show setZ Z i z j = Z j from if_neg hij]
    refine ⟨h1, row_keep rfl h2 (fun k hkv => hk k (Kd.R_lt h2 k hkv) (fun e => ?_))⟩
    rcases h.apart j i y x hij hy hx with t | t
    · rw [hkv] at t; cases t
    · exact t (hkv.trans e)
theorem C_same {W W' : World} {g n : Nat} {xs : List S61} (h : Kd.C k61 W (some ⟨g, 0, none⟩) n xs) (hk : W'.heap[g]? = W.heap[g]?) : Kd.C k61 W' (some ⟨g, 0, none⟩) n xs := by
  obtain ⟨h1, h2, h3⟩ := h
  refine ⟨h1, h2, fun hn => ?_⟩
  obtain ⟨ad, ha, h4⟩ := h3 hn
  refine ⟨ad, ha, fun j p hj => ?_⟩
  cases ha
  obtain ⟨c, c1, c2, c3⟩ := h4 j p hj
  refine ⟨c, c1, c2, fun i u hu => ?_⟩
  have := c3 i u hu
  rw [← this]
  refine World.cell?_of_block ?_
  have e2 : ((⟨g, 0, none⟩ : Addr).add (j * k61.sz + i)).block = g := by
    first | rfl | (unfold Addr.add; split <;> rfl)
  rw [e2]
  exact hk
/-- The old list reads on. -/
def Old (W wr : World) (v : Value) (xs : List S61) : Prop := xs = [] ∨ ∃ (g c : Nat), v = .slice (some ⟨g, 0, none⟩) xs.length c ∧ g < W.heap.size ∧ (∃ cells, wr.heap[g]? = some (.cells cells 61 (0, 0))) ∧ Kd.C k61 wr (some ⟨g, 0, none⟩) xs.length xs
structure GS (w0 W : World) (v : Value) (xs : List S61) (p : S61) (j : Nat) (v0 : Value) (wr : World) : Prop where
  row : Kd.R k61 61 wr w0.heap.size T1 v0 (xs ++ List.replicate j p)
  below : Below w0.heap.size w0 wr
  far : ∀ k, k < W.heap.size → some k ≠ v.ownBlock → wr.heap[k]? = W.heap[k]?
  size : W.heap.size ≤ wr.heap.size
  at_ : v0.ownBlock = v.ownBlock ∨ ∃ b, v0.ownBlock = some b ∧ W.heap.size ≤ b
  old : Old W wr v xs
theorem GS.start {w0 W : World} {v : Value} {xs : List S61} {p : S61} (hR : Kd.R k61 61 W w0.heap.size T1 v xs) (hB : Below w0.heap.size w0 W) : GS w0 W v xs p 0 v W := by
  refine ⟨by simpa using hR, hB, fun _ _ _ => rfl, Nat.le_refl _, .inl rfl, ?_⟩
  by_cases h : xs = []
  · exact .inl h
  · obtain ⟨g, c, e, _, hl, hcl⟩ := Kd.R_form hR (List.length_pos_iff.2 h)
    subst e
    exact .inr ⟨g, c, rfl, hl, hcl, (Kd.R_reads' hR).2.2⟩
theorem GS.step {w0 W wr w1 : World} {v v0 v1 : Value} {xs : List S61} {p : S61} {j : Nat} (h : GS w0 W v xs p j v0 wr) (hR : Kd.R k61 61 w1 w0.heap.size T1 v1 ((xs ++ List.replicate j p) ++ [p])) (hB : Below w0.heap.size w0 w1) (hg : wr.grownBy w1 v0.ownBlock)
    (hat : v1.ownBlock = v0.ownBlock ∨ (wr.grownBy w1 none ∧ ∃ b, v1.ownBlock = some b ∧ wr.heap.size ≤ b)) : GS w0 W v xs p (j + 1) v1 w1 := by
  have hs := h.size
  have e1 : (xs ++ List.replicate j (p : S61)) ++ [p] = xs ++ List.replicate (j + 1) p := by rw [List.append_assoc, List.replicate_succ']
  rw [e1] at hR
  refine ⟨hR, hB, fun k hk hkv => ?_, by have := hg.size; omega, ?_, ?_⟩
  · refine (hg.block k (by omega) (fun e => ?_)).trans (h.far k hk hkv)
    rcases h.at_ with t | ⟨b, t, hb⟩
    · exact hkv (e.trans t)
    · rw [t] at e; cases e; omega
  · rcases hat with t | ⟨_, b, t, hb⟩
    · rw [t]; exact h.at_
    · exact .inr ⟨b, t, by omega⟩
  · rcases h.old with o | ⟨g, c, o1, o2, o4, o3⟩
    · exact .inl o
    · have hvo : v.ownBlock = some g := by rw [o1]; rfl
      rcases hat with t | ⟨t, _⟩
      · by_cases hv0 : v0.ownBlock = some g
        · have hne : 0 < (xs ++ List.replicate (j + 1) (p : S61)).length := by simp only [List.length_append, List.length_replicate]; omega
          obtain ⟨g1, c1, e2, _⟩ := Kd.R_form hR hne
          have hg1 : g1 = g := by
            have : v1.ownBlock = some g := t.trans hv0
            rw [e2] at this
            cases this; rfl
          subst hg1
          subst e2
          have h2 := Kd.R_take (m := xs.length) hR (by simp)
          rw [List.take_left] at h2
          exact .inr ⟨g1, c, o1, o2, Kd.R_typed hR g1 rfl, (Kd.R_reads' h2).2.2⟩
        · have hk := hg.block g (by omega) (fun e => hv0 e.symm)
          exact .inr ⟨g, c, o1, o2, o4.imp (fun _ q => hk.trans q), C_same o3 hk⟩
      · have hk := t.block g (by omega) (by simp)
        exact .inr ⟨g, c, o1, o2, o4.imp (fun _ q => hk.trans q), C_same o3 hk⟩
theorem GS.more {w0 W wr w1 : World} {v v0 : Value} {xs : List S61} {p : S61} {j : Nat} (h : GS w0 W v xs p j v0 wr) (hb : Below wr.heap.size wr w1) : GS w0 W v xs p j v0 w1 := by
  have hs := h.size
  refine ⟨Kd.R_below h.row hb, h.below.trans (hb.mono h.below.size), fun k hk hkv => (hb.block k (by omega)).trans (h.far k hk hkv), by have := hb.size; omega, h.at_, ?_⟩
  rcases h.old with o | ⟨g, c, o1, o2, o4, o3⟩
  · exact .inl o
  · exact .inr ⟨g, c, o1, o2, o4.imp (fun _ q => (hb.block g (by omega)).trans q), C_same o3 (hb.block g (by omega))⟩
/-- It reads so. -/
def Reads (W : World) (h : Hd) (xs : List S61) : Prop := h.n = xs.length ∧ xs.length ≤ h.c ∧ (xs = [] ∨ ∃ g, h.A = some ⟨g, 0, none⟩ ∧ (∃ cells, W.heap[g]? = some (.cells cells 61 (0, 0))) ∧ Kd.C k61 W (some ⟨g, 0, none⟩) xs.length xs)
theorem Reads.C {W : World} {h : Hd} {xs : List S61} (hr : Reads W h xs) : Kd.C k61 W h.A xs.length xs := by
  obtain ⟨_, _, rfl | ⟨g, e, _, hc⟩⟩ := hr
  · exact C_nil61 W h.A
  · rw [e]; exact hc
theorem reads_of {W : World} {base : Nat} {h : Hd} {xs : List S61} (hn : h.n = xs.length) (hR : Kd.R k61 61 W base T1 h.val xs) : Reads W h xs := by
  have hR' : Kd.R k61 61 W base T1 (.slice h.A h.n h.c) xs := hR
  obtain ⟨_, h2, h3⟩ := Kd.R_reads' hR'
  refine ⟨hn, by omega, ?_⟩
  by_cases e : xs = []
  · exact .inl e
  · obtain ⟨g, c, e1, _, _, hl⟩ := Kd.R_form hR' (List.length_pos_iff.2 e)
    injection e1 with e2 e3 e4
    rw [e2] at h3
    exact .inr ⟨g, e2, hl, h3⟩
theorem Reads.keep {W W' : World} {h : Hd} {xs : List S61} (hr : Reads W h xs) (hz : W.heap.size ≤ W'.heap.size) (hk : ∀ g, xs ≠ [] → h.A = some ⟨g, 0, none⟩ → W'.heap[g]? = W.heap[g]?) : Reads W' h xs := by
  obtain ⟨h1, h2, h3⟩ := hr
  refine ⟨h1, h2, ?_⟩
  rcases h3 with h3 | ⟨g, e, hl, hc⟩
  · exact .inl h3
  · by_cases hx : xs = []
    · exact .inl hx
    · exact .inr ⟨g, e, hl.imp (fun _ q => (hk g hx e).trans q), C_same hc (hk g hx e)⟩
theorem own_of {h : Hd} {g : Nat} (e : h.A = some ⟨g, 0, none⟩) : h.val.ownBlock = some g := by
  unfold Hd.val; rw [e]; rfl
/-- The first i of ten lists have been grown. -/
structure G4 (w W : World) (all gs : List Hd) (Z : Nat → List S61) (i : Nat) : Prop where
  below : Below w.heap.size w W
  len : gs.length = i
  later : ∀ (j : Nat) (h : Hd), i ≤ j → all[j]? = some h → h.n = (Z j).length ∧ Kd.R k61 61 W w.heap.size T1 h.val (Z j)
  apart : ∀ (i j : Nat) (h h' : Hd), i ≠ j → all[i]? = some h → all[j]? = some h' → h.val.ownBlock = none ∨ h.val.ownBlock ≠ h'.val.ownBlock
  olds : ∀ (j : Nat) (h : Hd), j < i → all[j]? = some h → Reads W h (Z j)
  news : ∀ (j : Nat) (g : Hd), gs[j]? = some g → Reads W g (Z j ++ List.replicate 20 (mkB j))
  aside : ∀ (j j' : Nat) (g h : Hd), gs[j]? = some g → i ≤ j' → all[j']? = some h → h.val.ownBlock = none ∨ h.val.ownBlock ≠ g.val.ownBlock
theorem MS.toG {w W : World} {all : List Hd} {Z : Nat → List S61} (h : MS w W all Z) : G4 w W all [] Z 0 :=
  ⟨h.below, rfl, fun j x _ hx => h.lst j x hx, h.apart, fun j x hj => by omega, fun j g hg => by simp at hg, fun j j' g x hg => by simp at hg⟩
theorem G4.more {w W W' : World} {all gs : List Hd} {Z : Nat → List S61} {i : Nat} (h : G4 w W all gs Z i) (hb : Below W.heap.size W W') : G4 w W' all gs Z i := by
  refine ⟨h.below.trans (hb.mono h.below.size), h.len, fun j x hj hx => ⟨(h.later j x hj hx).1, Kd.R_below (h.later j x hj hx).2 hb⟩, h.apart, fun j x hj hx => ?_, fun j g hg => ?_, h.aside⟩
  · have hr := h.olds j x hj hx
    refine hr.keep hb.size (fun g hne e => ?_)
    rcases hr.2.2 with t | ⟨g', e', hl, _⟩
    · exact absurd t hne
    · rw [e] at e'; cases e'; obtain ⟨_, hl'⟩ := hl; exact hb.block g (Array.getElem?_eq_some_iff.1 hl').1
  · have hr := h.news j g hg
    refine hr.keep hb.size (fun b hne e => ?_)
    rcases hr.2.2 with t | ⟨g', e', hl, _⟩
    · exact absurd t hne
    · rw [e] at e'; cases e'; obtain ⟨_, hl'⟩ := hl; exact hb.block b (Array.getElem?_eq_some_iff.1 hl').1
/-- The i-th row has been grown. -/
theorem G4.grown {w W w' : World} {all gs : List Hd} {Z : Nat → List S61} {i : Nat} {x : Hd} {v1 : Value} (h : G4 w W all gs Z i) (hx : all[i]? = some x) (hG : GS w W x.val (Z i) (mkB i) 20 v1 w') :
    ∃ g : Hd, v1 = g.val ∧ G4 w w' all (gs ++ [g]) Z (i + 1) := by
  obtain ⟨hn, hR⟩ := h.later i x (Nat.le_refl _) hx
  obtain ⟨A1, c1, e1⟩ := Kd.R_slice hG.row
  have hz := hG.size
  have keepR : ∀ {y : Hd} {xs : List S61}, Reads W y xs → y.val.ownBlock = none ∨ y.val.ownBlock ≠ x.val.ownBlock → Reads w' y xs := by
    intro y xs hr ho
    refine hr.keep hz (fun g hne e => ?_)
    rcases hr.2.2 with t | ⟨g', e', hlt, _⟩
    · exact absurd t hne
    · rw [e] at e'; cases e'
      obtain ⟨_, hl'⟩ := hlt
      refine hG.far g (Array.getElem?_eq_some_iff.1 hl').1 (fun e2 => ?_)
      rcases ho with t | t
      · rw [own_of e] at t; cases t
      · exact t ((own_of e).trans e2)
  have sym : ∀ {a b : Option Nat}, (a = none ∨ a ≠ b) → (b = none ∨ b ≠ a) := by
    intro a b hab
    rcases hab with t | t
    · subst t
      cases b with
      | none => exact .inl rfl
      | some k => exact .inr (by intro e; cases e)
    · exact .inr (fun e => t e.symm)
  have cases_ : ∀ {j : Nat} {g : Hd}, (gs ++ [⟨A1, (Z i ++ List.replicate 20 (mkB i)).length, c1⟩])[j]? = some g → (gs[j]? = some g ∧ j < i) ∨ (j = i ∧ g = ⟨A1, (Z i ++ List.replicate 20 (mkB i)).length, c1⟩) := by
    intro j g hg
    have hgl := h.len
    by_cases hj : j < gs.length
    · rw [List.getElem?_append_left hj] at hg; exact .inl ⟨hg, by omega⟩
    · rw [List.getElem?_append_right (by omega)] at hg
      have h1 := (List.getElem?_eq_some_iff.1 hg).1
      simp at h1
      have e : j = gs.length := by omega
      subst e
      simp at hg
      exact .inr ⟨hgl, by rw [← hg]; simp⟩
  have hown : ((⟨A1, (Z i ++ List.replicate 20 (mkB i)).length, c1⟩ : Hd)).val = v1 := by rw [e1]; rfl
  refine ⟨⟨A1, (Z i ++ List.replicate 20 (mkB i)).length, c1⟩, by rw [hown], ⟨hG.below, by simp [h.len], fun j y hj hy => ?_, h.apart, fun j y hj hy => ?_, fun j g hg => ?_, fun j j' g y hg hj' hy => ?_⟩⟩
  · obtain ⟨q1, q2⟩ := h.later j y (by omega) hy
    refine ⟨q1, row_keep rfl q2 (fun k hk => hG.far k (Kd.R_lt q2 k hk) (fun e => ?_))⟩
    rcases h.apart j i y x (by omega) hy hx with t | t
    · rw [hk] at t; cases t
    · exact t (hk.trans e)
  · by_cases hji : j = i
    · subst hji
      rw [hx] at hy; cases hy
      have hr := reads_of hn hR
      refine ⟨hr.1, hr.2.1, ?_⟩
      rcases hG.old with o | ⟨g, c, o1, o2, o4, o3⟩
      · exact .inl o
      · refine .inr ⟨g, ?_, o4, o3⟩
        have : Value.slice x.A x.n x.c = .slice (some ⟨g, 0, none⟩) (Z j).length c := o1
        injection this
    · exact keepR (h.olds j y (by omega) hy) (h.apart j i y x hji hy hx)
  · rcases cases_ hg with ⟨hg', hji⟩ | ⟨rfl, rfl⟩
    · exact keepR (h.news j g hg') (sym (h.aside j i g x hg' (Nat.le_refl _) hx))
    · exact reads_of rfl (by rw [hown]; exact hG.row)
  · rcases cases_ hg with ⟨hg', hji⟩ | ⟨rfl, rfl⟩
    · exact h.aside j j' g y hg' (by omega) hy
    · rw [hown]
      rcases hG.at_ with t | ⟨b, t, hb⟩
      · rw [t]; exact h.apart j' j y x (by omega) hy hx
      · rw [t]
        cases hu : y.val.ownBlock with
        | none => exact .inl rfl
        | some k =>
          refine .inr (fun e => ?_)
          cases e
          have := Kd.R_lt (h.later j' y (by omega) hy).2 b hu
          omega
/-- A row of headers is written. -/
theorem G4.past {w W w1 : World} {all gs : List Hd} {Z : Nat → List S61} {i base : Nat} {u : Value} {xs : List Hd} (h : G4 w W all gs Z i) (hR : Kd.R kH 31 W base T1 u xs) (hg : W.grownBy w1 u.ownBlock) (hB : Below w.heap.size w w1) : G4 w w1 all gs Z i := by
  have far : ∀ {k : Nat} {cells : Array Value}, W.heap[k]? = some (.cells cells 61 (0, 0)) → w1.heap[k]? = W.heap[k]? := by
    intro k cells hc
    refine hg.block k (Array.getElem?_eq_some_iff.1 hc).1 (fun e => ?_)
    obtain ⟨cells', hc'⟩ := Kd.R_typed hR k e.symm
    rw [hc] at hc'; cases hc'
  have keepR : ∀ {y : Hd} {xs : List S61}, Reads W y xs → Reads w1 y xs := by
    intro y xs hr
    refine hr.keep hg.size (fun g hne e => ?_)
    rcases hr.2.2 with t | ⟨g', e', ⟨_, hl'⟩, _⟩
    · exact absurd t hne
    · rw [e] at e'; cases e'; exact far hl'
  refine ⟨hB, h.len, fun j y hj hy => ?_, h.apart, fun j y hj hy => keepR (h.olds j y hj hy), fun j g hg' => keepR (h.news j g hg'), h.aside⟩
  obtain ⟨q1, q2⟩ := h.later j y hj hy
  exact ⟨q1, row_keep rfl q2 (fun k hk => by obtain ⟨cells, hc⟩ := Kd.R_typed q2 k hk; exact far hc)⟩
/-! ### what is grown is kept in turn -/
def il : List Hd → List Hd → List Hd
  | h :: hs, g :: gs => h :: g :: il hs gs
  | _, _ => []
theorem il_snoc (x y : Hd) : ∀ (a b : List Hd), a.length = b.length → il (a ++ [x]) (b ++ [y]) = il a b ++ [x, y]
  | [], [], _ => rfl
  | [], _ :: _, h => by simp at h
  | _ :: _, [], h => by simp at h
  | p :: a, q :: b, h => by
    show p :: q :: il (a ++ [x]) (b ++ [y]) = _
    rw [il_snoc x y a b (by simpa using h)]
    rfl
theorem il_len : ∀ (a b : List Hd), a.length = b.length → (il a b).length = 2 * a.length
  | [], [], _ => rfl
  | [], _ :: _, h => by simp at h
  | _ :: _, [], h => by simp at h
  | p :: a, q :: b, h => by
    show (il a b).length + 1 + 1 = _
    rw [il_len a b (by simpa using h), List.length_cons]; omega
theorem il_get : ∀ (a b : List Hd), a.length = b.length → ∀ (i : Nat), (il a b)[2 * i]? = a[i]? ∧ (il a b)[2 * i + 1]? = b[i]?
  | [], [], _, i => by simp [il]
  | [], _ :: _, h, _ => by simp at h
  | _ :: _, [], h, _ => by simp at h
  | p :: a, q :: b, h, 0 => by simp [il]
  | p :: a, q :: b, h, i + 1 => by
    have := il_get a b (by simpa using h) i
    rw [show 2 * (i + 1) = 2 * i + 1 + 1 by omega]
    show (il a b)[2 * i]? = _ ∧ (il a b)[2 * i + 1]? = _
    simpa using this
theorem C_heads {w : World} {g t : Nat} {cs : Array Value} (l : List Hd) (h : w.heap[g]? = some (.cells cs t (0, 0))) (hc : cs = (l.map Hd.val).toArray) (hl : l.length ≤ 9223372036854775807) : Kd.C kH w (some ⟨g, 0, none⟩) l.length l := by
  refine ⟨rfl, hl, fun _ => ⟨_, rfl, fun j p hj => ⟨[p.val], rfl, rfl, fun i u hu => ?_⟩⟩⟩
  have hi : i = 0 := by
    rcases i with _ | i
    · rfl
    · simp at hu
  subst hi
  obtain rfl : p.val = u := by simpa using hu
  show w.cell? (Addr.add ⟨g, 0, none⟩ (j * 1 + 0)) = _
  rw [Addr.add_lit, blk_cell h, hc]
  simp [hj]
structure PG (w W : World) (K : Nat) (hs gs : List Hd) (Z : Nat → List S61) (v0 v1 v7 : Value) (i : Nat) (M : List Hd) : Prop where
  hK : w.heap.size ≤ K
  blk : W.heap[K]? = some (.cells #[v0, v1] 54 (0, 0))
  rowL : Kd.R kH 31 W w.heap.size T1 v0 hs
  rowM : Kd.R kH 31 W w.heap.size T1 v7 M
  sep : ∀ k, v0.ownBlock = some k → v7.ownBlock ≠ some k
  g4 : G4 w W hs gs Z i
theorem PG.more {w W W' : World} {K : Nat} {hs gs M : List Hd} {Z : Nat → List S61} {v0 v1 v7 : Value} {i : Nat} (h : PG w W K hs gs Z v0 v1 v7 i M) (hb : Below W.heap.size W W') : PG w W' K hs gs Z v0 v1 v7 i M :=
  ⟨h.hK, blk_below h.blk hb, Kd.R_below h.rowL hb, Kd.R_below h.rowM hb, h.sep, h.g4.more hb⟩
/-- A row of bars has been grown. -/
theorem PG.grown {w W w' : World} {K : Nat} {hs gs M : List Hd} {Z : Nat → List S61} {v0 v1 v7 v9 : Value} {i : Nat} {x : Hd} (h : PG w W K hs gs Z v0 v1 v7 i M) (hx : hs[i]? = some x) (hG : GS w W x.val (Z i) (mkB i) 20 v9 w') : ∃ g : Hd, v9 = g.val ∧ PG w w' K hs (gs ++ [g]) Z v0 v1 v7 (i + 1) M := by
  obtain ⟨g, e, hg4⟩ := h.g4.grown hx hG
  have hr := (h.g4.later i x (Nat.le_refl _) hx).2
  have far : ∀ {k : Nat} {cs : Array Value} {t : TypeId}, W.heap[k]? = some (.cells cs t (0, 0)) → t ≠ 61 → w'.heap[k]? = W.heap[k]? := by
    intro k cs t hc ht
    refine hG.far k (Array.getElem?_eq_some_iff.1 hc).1 (fun e => ?_)
    obtain ⟨cs', hc'⟩ := Kd.R_typed hr k e.symm
    rw [hc] at hc'; cases hc'; exact ht rfl
  exact ⟨g, e, h.hK, (far h.blk (by decide)).trans h.blk, row_keep rfl h.rowL (fun k hk => by obtain ⟨cs, hc⟩ := Kd.R_typed h.rowL k hk; exact far hc (by decide)), row_keep rfl h.rowM (fun k hk => by obtain ⟨cs, hc⟩ := Kd.R_typed h.rowM k hk; exact far hc (by decide)), h.sep, hg4⟩
/-- Two headers more. -/
theorem PG.put {w W w1 : World} {K : Nat} {hs gs M M' : List Hd} {Z : Nat → List S61} {v0 v1 v7 v8 : Value} {i : Nat} (h : PG w W K hs gs Z v0 v1 v7 i M) (hR : Kd.R kH 31 w1 w.heap.size T1 v8 M') (hB : Below w.heap.size w w1) (hg : W.grownBy w1 v7.ownBlock) (hat : v8.ownBlock = v7.ownBlock ∨ ∃ b, v8.ownBlock = some b ∧ W.heap.size ≤ b) : PG w w1 K hs gs Z v0 v1 v8 i M' := by
  have hne : v7.ownBlock ≠ some K := fun e => by
    obtain ⟨cs', hc'⟩ := Kd.R_typed h.rowM K e
    rw [h.blk] at hc'; cases hc'
  refine ⟨h.hK, (hg.block K (Array.getElem?_eq_some_iff.1 h.blk).1 (fun e => hne e.symm)).trans h.blk, row_keep rfl h.rowL (fun k hk => hg.block k (Kd.R_lt h.rowL k hk) (fun e => h.sep k hk e.symm)), hR, ?_, h.g4.past h.rowM hg hB⟩
  intro k hk e
  rcases hat with t | ⟨b, t, hb⟩
  · exact h.sep k hk (t.symm.trans e)
  · rw [t] at e; cases e
    have := Kd.R_lt h.rowL _ hk
    omega
end Go.Proofs.Ytlnhpccapadpmaa.Pr
