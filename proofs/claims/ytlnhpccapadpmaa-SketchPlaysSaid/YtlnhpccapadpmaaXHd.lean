/- The sketches that came out, kept in memory: headers, rows; one more is held. -/
import Derived.Test.YtlnhpccapadpmaaXLn
import Derived.Test.YtlnhpccapadpmaaXQu
namespace Go.Proofs.Ytlnhpccapadpmaa.Pr
open Go.RowKit Go.Proofs.YtlnhpccapadpmaaW.PrintWords Go.Proofs.YtlnhpccapadpmaaW.PrintLast Go.Proofs.YtlnhpccapadpmaaW.PrintMore
set_option linter.unusedVariables false
set_option linter.unusedSimpArgs false
abbrev T1 : Nat → Prop := fun _ => True
structure Hd where
  A : Option Addr
  n : Nat
  c : Nat
def Hd.val (h : Hd) : Value := .slice h.A h.n h.c
def kH : Kd Hd := Kd.scalar Hd.val (fun _ => rfl)
theorem infoH31 : (Try.prog.info? 31).map (fun i => (i.zero, i.size, i.bytes)) = some (some (.slice none 0 0), 1, 24) := by kernel_rfl
theorem row_keep {α : Type} {d : Kd α} {e base : Nat} {W w' : World} {v : Value} {xs : List α} {ok : Nat → Prop} (hE : d.E = []) (h : Kd.R d e W base ok v xs) (hk : ∀ k, v.ownBlock = some k → w'.heap[k]? = W.heap[k]?) : Kd.R d e w' base ok v xs :=
  Kd.R_mono (Kd.R_move (Kd.R_tight hE h) (fun k hk' => hk k hk'.symm)) (fun k hk => h.1 k hk.symm)
def Apart (h h' : Hd) : Prop := h.val.ownBlock = none ∨ h.val.ownBlock ≠ h'.val.ownBlock
theorem Apart.symm {a b : Hd} (h : Apart a b) : Apart b a := by
  rcases h with t | t
  · unfold Apart; rw [t]
    cases b.val.ownBlock with
    | none => exact .inl rfl
    | some k => exact .inr (by intro e; cases e)
  · exact .inr (fun e => t e.symm)
/-- What a call leaves as it was: all of the world below, and all rows of bars. -/
structure Keep (w W W' : World) : Prop where
  size : W.heap.size ≤ W'.heap.size
  low : ∀ k, k < w.heap.size → W'.heap[k]? = W.heap[k]?
  bars : ∀ (k : Nat) (cells : Array Value), W.heap[k]? = some (Obj.cells cells 61 (0, 0)) → W'.heap[k]? = W.heap[k]?
  ops : ∀ (k : Nat) (cells : Array Value), W.heap[k]? = some (Obj.cells cells 56 (0, 0)) → W'.heap[k]? = W.heap[k]?
theorem Keep.refl (w W : World) : Keep w W W := ⟨Nat.le_refl _, fun _ _ => rfl, fun _ _ _ => rfl, fun _ _ _ => rfl⟩
theorem Keep.trans {w a b c : World} (h : Keep w a b) (k : Keep w b c) : Keep w a c :=
  ⟨Nat.le_trans h.size k.size, fun i hi => (k.low i hi).trans (h.low i hi), fun i cs hc => (k.bars i cs ((h.bars i cs hc).trans hc)).trans (h.bars i cs hc), fun i cs hc => (k.ops i cs ((h.ops i cs hc).trans hc)).trans (h.ops i cs hc)⟩
theorem Keep.of_below {w W W' : World} (hw : w.heap.size ≤ W.heap.size) (h : Below W.heap.size W W') : Keep w W W' :=
  ⟨h.size, fun k hk => h.block k (by omega), fun k cs hc => h.block k (Array.getElem?_eq_some_iff.1 hc).1, fun k cs hc => h.block k (Array.getElem?_eq_some_iff.1 hc).1⟩
/-- The sketches that are held: their rows' headers, their rows. -/
structure BS (w W : World) (K : Nat) (hs ws : List Hd) (X : Nat → List S61) (ok : Nat → Prop) (v0 v1 : Value) : Prop where
  below : Below w.heap.size w W
  hK : w.heap.size ≤ K
  blk : W.heap[K]? = some (.cells #[v0, v1] 54 (0, 0))
  rowL : Kd.R kH 31 W w.heap.size T1 v0 hs
  rowW : Kd.R kH 31 W w.heap.size T1 v1 ws
  sep : ∀ k, v0.ownBlock = some k → v1.ownBlock ≠ some k
  lstL : ∀ (i : Nat) (h : Hd), hs[i]? = some h → h.n = (X i).length ∧ Kd.R k61 61 W w.heap.size ok h.val (X i)
  lstW : ∀ (i : Nat) (h : Hd), ws[i]? = some h → h.n = (X i).length ∧ Kd.R k61 61 W w.heap.size ok h.val (X i)
  apart : ∀ (i j : Nat) (h h' : Hd), i ≠ j → hs[i]? = some h → hs[j]? = some h' → Apart h h'
  short : ∀ i, (X i).length ≤ 1920
theorem BS.mono {w W : World} {K : Nat} {hs ws : List Hd} {X : Nat → List S61} {ok ok' : Nat → Prop} {v0 v1 : Value} (h : BS w W K hs ws X ok v0 v1) (hk : ∀ k, ok k → k < W.heap.size → ok' k) : BS w W K hs ws X ok' v0 v1 :=
  ⟨h.below, h.hK, h.blk, h.rowL, h.rowW, h.sep, fun i x hx => ⟨(h.lstL i x hx).1, Kd.R_mono (Kd.R_bound (h.lstL i x hx).2) (fun k hk' => hk k hk'.1 hk'.2.2.1)⟩, fun i x hx => ⟨(h.lstW i x hx).1, Kd.R_mono (Kd.R_bound (h.lstW i x hx).2) (fun k hk' => hk k hk'.1 hk'.2.2.1)⟩, h.apart, h.short⟩
/-- The world goes on: the blocks that are meant stay. -/
theorem BS.move {w W W' : World} {K : Nat} {hs ws : List Hd} {X : Nat → List S61} {ok : Nat → Prop} {v0 v1 : Value} (h : BS w W K hs ws X ok v0 v1) (hb : Below w.heap.size w W')
    (h1 : ∀ (k : Nat) (cells : Array Value), W.heap[k]? = some (Obj.cells cells 31 (0, 0)) → W'.heap[k]? = W.heap[k]?) (h2 : W'.heap[K]? = W.heap[K]?) (h3 : ∀ k, ok k → k < W.heap.size → W'.heap[k]? = W.heap[k]?) : BS w W' K hs ws X ok v0 v1 :=
  ⟨hb, h.hK, h2.trans h.blk, row_keep rfl h.rowL (fun k hk => by obtain ⟨cs, hc⟩ := Kd.R_typed h.rowL k hk; exact h1 k cs hc), row_keep rfl h.rowW (fun k hk => by obtain ⟨cs, hc⟩ := Kd.R_typed h.rowW k hk; exact h1 k cs hc), h.sep,
    fun i x hx => ⟨(h.lstL i x hx).1, Kd.R_step (h.lstL i x hx).2 h3⟩, fun i x hx => ⟨(h.lstW i x hx).1, Kd.R_step (h.lstW i x hx).2 h3⟩, h.apart, h.short⟩
theorem BS.more {w W W' : World} {K : Nat} {hs ws : List Hd} {X : Nat → List S61} {ok : Nat → Prop} {v0 v1 : Value} (h : BS w W K hs ws X ok v0 v1) (hb : Below W.heap.size W W') : BS w W' K hs ws X ok v0 v1 :=
  h.move (h.below.trans (hb.mono h.below.size)) (fun k cs hc => hb.block k (Array.getElem?_eq_some_iff.1 hc).1) (hb.block K (Array.getElem?_eq_some_iff.1 h.blk).1) (fun k _ hk => hb.block k hk)
/-- One row of headers has grown; the block that bears the rows bears the new one. -/
def setX (X : Nat → List S61) (i : Nat) (z : List S61) : Nat → List S61 := fun j => if j = i then z else X j
theorem get_snoc {α : Type} {l : List α} {x y : α} {i : Nat} (h : (l ++ [x])[i]? = some y) : (l[i]? = some y ∧ i < l.length) ∨ (i = l.length ∧ y = x) := by
  by_cases hl : i < l.length
  · rw [List.getElem?_append_left hl] at h; exact .inl ⟨h, hl⟩
  · rw [List.getElem?_append_right (by omega)] at h
    have h1 := (List.getElem?_eq_some_iff.1 h).1
    simp at h1
    have e : i = l.length := by omega
    subst e
    simp at h
    exact .inr ⟨rfl, h.symm⟩
theorem ne_typed {W : World} {g g' : Nat} {t t' : TypeId} {cs cs' : Array Value} (h : W.heap[g]? = some (.cells cs t (0, 0))) (h' : W.heap[g']? = some (.cells cs' t' (0, 0))) (hne : t ≠ t') : g ≠ g' := blk_ne h h' hne
/-- What a step does that makes one header more: the row of headers has grown, its block's cell has been written. -/
theorem BS.step {w W w1 : World} {K j : Nat} {hs ws us : List Hd} {X : Nat → List S61} {ok : Nat → Prop} {v0 v1 u u' : Value} (h : BS w W K hs ws X ok v0 v1) (hu : Kd.R kH 31 W w.heap.size T1 u us) (hB : Below w.heap.size w w1) (hg : W.grownBy w1 u.ownBlock) :
    (w1.heap[K]? = W.heap[K]?) ∧ Below w.heap.size w (w1.setCell ⟨K, j, none⟩ u') ∧ (∀ (k : Nat) (cells : Array Value), W.heap[k]? = some (Obj.cells cells 61 (0, 0)) → (w1.setCell ⟨K, j, none⟩ u').heap[k]? = W.heap[k]?) ∧
    (∀ (k : Nat) (cells : Array Value), W.heap[k]? = some (Obj.cells cells 31 (0, 0)) → u.ownBlock ≠ some k → (w1.setCell ⟨K, j, none⟩ u').heap[k]? = W.heap[k]?) ∧ Keep w W (w1.setCell ⟨K, j, none⟩ u') := by
  have far : ∀ {k : Nat} {cells : Array Value} {t : TypeId}, W.heap[k]? = some (.cells cells t (0, 0)) → t ≠ 54 → u.ownBlock ≠ some k → (w1.setCell ⟨K, j, none⟩ u').heap[k]? = W.heap[k]? := by
    intro k cells t hc ht hk
    exact (Below.heap_setCell _ _ _ _ (ne_typed hc h.blk ht)).trans (hg.block k (Array.getElem?_eq_some_iff.1 hc).1 (fun e => hk e.symm))
  have t61 : ∀ {k : Nat} {cells : Array Value}, W.heap[k]? = some (.cells cells 61 (0, 0)) → u.ownBlock ≠ some k := by
    intro k cells hc e
    obtain ⟨cs, hc'⟩ := Kd.R_typed hu k e
    rw [hc] at hc'; cases hc'
  have t56 : ∀ {k : Nat} {cells : Array Value}, W.heap[k]? = some (.cells cells 56 (0, 0)) → u.ownBlock ≠ some k := by
    intro k cells hc e
    obtain ⟨cs, hc'⟩ := Kd.R_typed hu k e
    rw [hc] at hc'; cases hc'
  have hbb := hB.setCell (p := ⟨K, j, none⟩) h.hK u'
  refine ⟨hg.block K (Array.getElem?_eq_some_iff.1 h.blk).1 (fun e => ?_), hbb, fun k cells hc => far hc (by decide) (t61 hc), fun k cells hc hk => far hc (by decide) hk, ?_, ?_, fun k cells hc => far hc (by decide) (t61 hc), fun k cells hc => far hc (by decide) (t56 hc)⟩
  · obtain ⟨cs, hc'⟩ := Kd.R_typed hu K e.symm
    rw [h.blk] at hc'; cases hc'
  · rw [World.size_setCell]; exact hg.size
  · intro k hk
    exact (hbb.block k hk).trans (h.below.block k hk).symm
theorem sep_step {W : World} {base : Nat} {u u' o : Value} {os : List Hd} (ho : Kd.R kH 31 W base T1 o os) (hs : ∀ k, u.ownBlock = some k → o.ownBlock ≠ some k) (hat : u'.ownBlock = u.ownBlock ∨ ∃ b, u'.ownBlock = some b ∧ W.heap.size ≤ b) : ∀ k, u'.ownBlock = some k → o.ownBlock ≠ some k := by
  intro k hk e
  rcases hat with t | ⟨b, t, hb⟩
  · exact hs k (t.symm.trans hk) e
  · rw [t] at hk; cases hk
    have := Kd.R_lt ho _ e
    omega
theorem BS.pushL {w W w1 : World} {K : Nat} {hs ws : List Hd} {X : Nat → List S61} {ok : Nat → Prop} {v0 v1 u' : Value} {x : Hd} {z : List S61} (h : BS w W K hs ws X ok v0 v1) (hR : Kd.R kH 31 w1 w.heap.size T1 u' (hs ++ [x])) (hB : Below w.heap.size w w1) (hg : W.grownBy w1 v0.ownBlock)
    (hat : u'.ownBlock = v0.ownBlock ∨ ∃ b, u'.ownBlock = some b ∧ W.heap.size ≤ b) (hn : x.n = z.length) (hx : Kd.R k61 61 W w.heap.size ok x.val z) (ha : ∀ (i : Nat) (y : Hd), hs[i]? = some y → Apart y x) (hl : ws.length ≤ hs.length) (hz : z.length ≤ 1920) :
    BS w (w1.setCell ⟨K, 0, none⟩ u') K (hs ++ [x]) ws (setX X hs.length z) ok u' v1 ∧ Keep w W (w1.setCell ⟨K, 0, none⟩ u') := by
  obtain ⟨s1, s2, s3, s4, s5⟩ := h.step (j := 0) (u' := u') h.rowL hB hg
  have kp : ∀ {y : Hd} {q : List S61}, Kd.R k61 61 W w.heap.size ok y.val q → Kd.R k61 61 (w1.setCell ⟨K, 0, none⟩ u') w.heap.size ok y.val q := fun hy => row_keep rfl hy (fun k hk => by obtain ⟨cs, hc⟩ := Kd.R_typed hy k hk; exact s3 k cs hc)
  refine ⟨⟨s2, h.hK, ?_, ?_, ?_, sep_step h.rowW h.sep hat, fun i y hy => ?_, fun i y hy => ?_, fun i j y y' hij hy hy' => ?_, fun i => ?_⟩, s5⟩
  · exact blk_put (s1.trans h.blk) 0 u' rfl
  · refine row_keep rfl hR (fun k hk => Below.heap_setCell _ _ _ _ ?_)
    obtain ⟨cs, hc⟩ := Kd.R_typed hR k hk
    exact ne_typed hc (s1.trans h.blk) (by decide)
  · refine row_keep rfl h.rowW (fun k hk => ?_)
    obtain ⟨cs, hc⟩ := Kd.R_typed h.rowW k hk
    exact s4 k cs hc (fun e => h.sep k e hk)
  · unfold setX
    rcases get_snoc hy with ⟨h1, h2⟩ | ⟨rfl, rfl⟩
    · rw [if_neg (by omega)]; exact ⟨(h.lstL i y h1).1, kp (h.lstL i y h1).2⟩
    · rw [if_pos rfl]; exact ⟨hn, kp hx⟩
  · unfold setX
    have h1 := (List.getElem?_eq_some_iff.1 hy).1
    rw [if_neg (by omega)]; exact ⟨(h.lstW i y hy).1, kp (h.lstW i y hy).2⟩
  · rcases get_snoc hy with ⟨h1, _⟩ | ⟨rfl, rfl⟩
    · rcases get_snoc hy' with ⟨h2, _⟩ | ⟨rfl, rfl⟩
      · exact h.apart i j y y' hij h1 h2
      · exact ha i y h1
    · rcases get_snoc hy' with ⟨h2, _⟩ | ⟨rfl, rfl⟩
      · exact (ha j y' h2).symm
      · exact absurd rfl hij
  · unfold setX; split
    · exact hz
    · exact h.short i
theorem BS.pushW {w W w1 : World} {K : Nat} {hs ws : List Hd} {X : Nat → List S61} {ok : Nat → Prop} {v0 v1 u' : Value} {y : Hd} (h : BS w W K hs ws X ok v0 v1) (hR : Kd.R kH 31 w1 w.heap.size T1 u' (ws ++ [y])) (hB : Below w.heap.size w w1) (hg : W.grownBy w1 v1.ownBlock)
    (hat : u'.ownBlock = v1.ownBlock ∨ ∃ b, u'.ownBlock = some b ∧ W.heap.size ≤ b) (hn : y.n = (X ws.length).length) (hx : Kd.R k61 61 W w.heap.size ok y.val (X ws.length)) :
    BS w (w1.setCell ⟨K, 1, none⟩ u') K hs (ws ++ [y]) X ok v0 u' ∧ Keep w W (w1.setCell ⟨K, 1, none⟩ u') := by
  obtain ⟨s1, s2, s3, s4, s5⟩ := h.step (j := 1) (u' := u') h.rowW hB hg
  have kp : ∀ {y : Hd} {q : List S61}, Kd.R k61 61 W w.heap.size ok y.val q → Kd.R k61 61 (w1.setCell ⟨K, 1, none⟩ u') w.heap.size ok y.val q := fun hy => row_keep rfl hy (fun k hk => by obtain ⟨cs, hc⟩ := Kd.R_typed hy k hk; exact s3 k cs hc)
  refine ⟨⟨s2, h.hK, ?_, ?_, ?_, fun k hk e => sep_step h.rowL (fun k hk e => h.sep k e hk) hat k e hk, fun i x hx' => ⟨(h.lstL i x hx').1, kp (h.lstL i x hx').2⟩, fun i x hx' => ?_, h.apart, h.short⟩, s5⟩
  · exact blk_put (s1.trans h.blk) 1 u' rfl
  · refine row_keep rfl h.rowL (fun k hk => ?_)
    obtain ⟨cs, hc⟩ := Kd.R_typed h.rowL k hk
    exact s4 k cs hc (fun e => h.sep k hk e)
  · refine row_keep rfl hR (fun k hk => Below.heap_setCell _ _ _ _ ?_)
    obtain ⟨cs, hc⟩ := Kd.R_typed hR k hk
    exact ne_typed hc (s1.trans h.blk) (by decide)
  · rcases get_snoc hx' with ⟨h1, _⟩ | ⟨rfl, rfl⟩
    · exact ⟨(h.lstW i x h1).1, kp (h.lstW i x h1).2⟩
    · exact ⟨hn, kp hx⟩
def HoldPost (w W : World) (K : Nat) (hs ws : List Hd) (X : Nat → List S61) (ok : Nat → Prop) (x y : Hd) (z : List S61) (e : Ending) (w' : World) : Prop :=
  ∃ v0' v1', e = .returned (.bool true) ∧ BS w w' K (hs ++ [x]) (ws ++ [y]) (setX X hs.length z) ok v0' v1' ∧ Keep w W w'
set_option maxHeartbeats 1000000 in
theorem hold_run {w W : World} {K : Nat} {hs ws : List Hd} {X : Nat → List S61} {ok : Nat → Prop} {v0 v1 : Value} (h : BS w W K hs ws X ok v0 v1) (hl : hs.length = ws.length) (hlen : hs.length ≤ 7000000000) (x y : Hd) (z : List S61) (hz : z.length ≤ 1920)
    (hxn : x.n = z.length) (hx : Kd.R k61 61 W w.heap.size ok x.val z) (hyn : y.n = z.length) (hy : Kd.R k61 61 W w.heap.size ok y.val z) (ha : ∀ (i : Nat) (q : Hd), hs[i]? = some q → Apart q x) :
    Calls Try.prog 39 #[.pointer (some ⟨K, 0, none⟩), .slice x.A x.n x.c, .slice y.A y.n y.c] W (HoldPost w W K hs ws X ok x y z) := by
  have HL := Lib.hid hl
  have HXN := Lib.hid hxn
  have HYN := Lib.hid hyn
  have HB := Lib.hid h
  have HX := Lib.hid hx
  have HY := Lib.hid hy
  have HA := Lib.hid ha
  have g0 := (cell_of_row _ _ 0 _ _ _ h.blk).trans rfl
  have gf := fun j => blk_frozen h.blk j
  clear h hx hy ha hl hxn hyn
  go_enter Try.func39, Try.ntmps39
  go_upto_region 1 with (fail)
  go_upto_region 2 with (at_builtin; refine Kd.R_append kH (w0 := w) w.heap.size rfl (.tmp 11) (.tmp 13) 52 31 (.slice none 0 0) 24 rfl Try.underlying52 infoH31 rfl (by decide) (by omega) v0 hs x [.slice x.A x.n x.c] (fun _ => True) (fun _ => False) (by rfl) (by rfl) ?aP (fun _ hk => hk.elim) ?aF ?aO ?aB ?aS ?aL ?_; (case aP => rfl); (case aF => exact fun _ _ => trivial); (case aO => exact HB.out.rowL); (case aB => exact HB.out.below); (case aS => exact HB.out.below.size); (case aL => omega); intro u1 w1 ho hb hg hat; obtain ⟨A1, c1, h1⟩ := Kd.R_slice ho; rw [List.length_append, List.length_singleton] at h1; subst h1; have HQ := Lib.hid (HB.out.pushL ho hb hg hat HXN.out HX.out HA.out (by have := HL.out; omega) hz); have HY1 := Lib.hid (show Kd.R k61 61 (w1.setCell ⟨K, 0, none⟩ (.slice A1 (hs.length + 1) c1)) w.heap.size ok y.val z from row_keep rfl HY.out (fun k hk => by obtain ⟨cs, hc⟩ := Kd.R_typed HY.out k hk; exact HQ.out.2.bars k cs hc)); have hk1 := (HB.out.step (j := 0) (u' := v0) HB.out.rowL hb hg).1.trans HB.out.blk; have q0 := (cell_of_row _ _ 0 _ _ _ hk1).trans rfl; have qf := fun j => blk_frozen hk1 j; clear ho hb hg hat hk1 g0 gf)
  generalize hw2 : w1.setCell ⟨K, 0, none⟩ (.slice A1 (hs.length + 1) c1) = w2 at *
  clear hw2 q0 qf
  have p0 := (cell_of_row _ _ 1 _ _ _ HQ.out.1.blk).trans rfl
  have pf := fun j => blk_frozen HQ.out.1.blk j
  have HYZ := Lib.hid (show y.n = (setX X hs.length z ws.length).length ∧ Kd.R k61 61 w2 w.heap.size ok y.val (setX X hs.length z ws.length) by unfold setX; rw [if_pos HL.out.symm]; exact ⟨HYN.out, HY1.out⟩)
  go_upto_region 3 with (at_builtin; refine Kd.R_append kH (w0 := w) w.heap.size rfl (.tmp 21) (.tmp 23) 52 31 (.slice none 0 0) 24 rfl Try.underlying52 infoH31 rfl (by decide) (by omega) v1 ws y [.slice y.A y.n y.c] (fun _ => True) (fun _ => False) (by rfl) (by rfl) ?bP (fun _ hk => hk.elim) ?bF ?bO ?bB ?bS ?bL ?_; (case bP => rfl); (case bF => exact fun _ _ => trivial); (case bO => exact HQ.out.1.rowW); (case bB => exact HQ.out.1.below); (case bS => exact HQ.out.1.below.size); (case bL => have := HL.out; omega); intro u1 w3 ho hb hg hat; obtain ⟨A2, c2, h1⟩ := Kd.R_slice ho; rw [List.length_append, List.length_singleton] at h1; subst h1; have HP := Lib.hid (HQ.out.1.pushW ho hb hg hat HYZ.out.1 HYZ.out.2); have hk1 := (HQ.out.1.step (j := 1) (u' := v0) HQ.out.1.rowW hb hg).1.trans HQ.out.1.blk; have q0 := (cell_of_row _ _ 1 _ _ _ hk1).trans rfl; have qf := fun j => blk_frozen hk1 j; clear ho hb hg hat hk1 p0 pf)
  generalize hw4 : w3.setCell ⟨K, 1, none⟩ (.slice A2 (ws.length + 1) c2) = w4 at *
  clear hw4 q0 qf
  have hxr := HP.out.1.lstL hs.length x (by simp)
  have hyr := HP.out.1.lstW ws.length y (by simp)
  have hzz : setX X hs.length z hs.length = z := if_pos rfl
  have hzw : setX X hs.length z ws.length = z := if_pos HL.out.symm
  rw [hzz] at hxr
  rw [hzw] at hyr
  obtain ⟨_, x1, x2⟩ := Kd.R_reads' (show Kd.R k61 61 w4 w.heap.size ok (.slice x.A x.n x.c) z from hxr.2)
  obtain ⟨_, y1, y2⟩ := Kd.R_reads' (show Kd.R k61 61 w4 w.heap.size ok (.slice y.A y.n y.c) z from hyr.2)
  have HS := Lib.hid (spoorlaw13_sameBars.calls (z.length + 1) x.A x.c z y.A y.c z true w4 x2 (by rw [← hxr.1]; exact x1) y2 (by rw [← hyr.1]; exact y1) (Pure.same_bars z (by omega) _ (Nat.lt_succ_self _)))
  clear hxr hyr hzz hzw x1 x2 y1 y2
  have HE := Lib.hid (HQ.out.2.trans HP.out.2)
  go_wp2_with fail
  refine HS.out.mono ?_
  rintro e w5 ⟨rfl, ⟨n, rfl⟩⟩
  have hb := pw_below_drewN (Below.refl w4.heap.size w4) n
  have HF := Lib.hid (show HoldPost w W K hs ws X ok x y z (.returned (.bool true)) (w4.drewN n) from ⟨_, _, rfl, HP.out.1.more hb, HE.out.trans (Keep.of_below HP.out.1.below.size hb)⟩)
  clear hb
  go_wp2_with fail
  go_ret
  exact HF.out
end Go.Proofs.Ytlnhpccapadpmaa.Pr
