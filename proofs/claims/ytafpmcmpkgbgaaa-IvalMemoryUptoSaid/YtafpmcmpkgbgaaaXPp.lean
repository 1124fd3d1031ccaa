/- The document's pieces: what they answer is what the sweep answers. -/
import Derived.Test.YtafpmcmpkgbgaaaXPi
import Derived.Test.YtafpmcmpkgbgaaaSh
import Derived.BigRegion
namespace Go.Proofs.Ytafpmcmpkgbgaaa.Pr
open Go.RowKit Go.Proofs.YtafpmcmpkgbgaaaW.PrintWords Go.Proofs.YtafpmcmpkgbgaaaW.PrintLast Go.Proofs.YtafpmcmpkgbgaaaW.PrintMore
open Go.Lib
set_option linter.unusedVariables false
set_option linter.unusedSimpArgs false
def IsN63 (w0 W : World) (g : Nat) (f0 : Int) (f1 : Int) : Prop := W.heap[g]? = some (.cells #[.int .i64 f0, .int .i64 f1] 63 (0, 0)) ∧ w0.heap.size ≤ g
theorem IsN63.grown {w0 W : World} {g : Nat} {f0 : Int} {f1 : Int} {W1 : World} {row : Option Nat} (h : IsN63 w0 W g f0 f1) (hw : W.grownBy W1 row) (hne : some g ≠ row) : IsN63 w0 W1 g f0 f1 := by
  obtain ⟨hb, hg⟩ := h
  exact ⟨blk_grown hb hw hne, hg⟩
theorem IsN63.own_neN {w0 W : World} {g : Nat} {f0 : Int} {f1 : Int} {α : Type} {d : Kd α} {e : Nat} {base : Nat} {ok : Nat → Prop} {v : Value} {xs : List α} (h : IsN63 w0 W g f0 f1) (ho : Kd.N d e W base ok v xs) (ht : e ≠ 63) : some g ≠ v.ownBlock := by
  obtain ⟨hb, hg⟩ := h
  exact Kd.N_ne ho hb ht
theorem IsN63.fresh {w0 W : World} {g : Nat} {f0 : Int} {f1 : Int} (h : IsN63 w0 W g f0 f1) : ∀ k, W.heap.size ≤ k → k ≠ g := by
  obtain ⟨hb, hg⟩ := h
  exact Kd.freshB hb
theorem IsN63.kept {w0 W : World} {g : Nat} {f0 : Int} {f1 : Int} {W1 : World} {S : Nat → Prop} (h : IsN63 w0 W g f0 f1) (hk : Kept W W1 S) (hne : ¬ S g) : IsN63 w0 W1 g f0 f1 := by
  obtain ⟨hb, hg⟩ := h
  exact ⟨blk_kept hb hk hne, hg⟩
theorem IsN63.below {w0 W : World} {g : Nat} {f0 : Int} {f1 : Int} {W1 : World} (h : IsN63 w0 W g f0 f1) (hw : Below W.heap.size W W1) : IsN63 w0 W1 g f0 f1 := h.grown (grown_of_below hw none) (by simp)
theorem IsN63.alloc {w0 W : World} {g : Nat} {f0 : Int} {f1 : Int} (h : IsN63 w0 W g f0 f1) (o : Obj) : IsN63 w0 (W.alloc o) g f0 f1 := h.below (below_alloc (Below.refl _ _) o)
theorem IsN63.drewN {w0 W : World} {g : Nat} {f0 : Int} {f1 : Int} (h : IsN63 w0 W g f0 f1) (m : Nat) : IsN63 w0 (W.drewN m) g f0 f1 := h
theorem IsN63.drew {w0 W : World} {g : Nat} {f0 : Int} {f1 : Int} (h : IsN63 w0 W g f0 f1) : IsN63 w0 W.drew g f0 f1 := h
theorem IsN63.at_ {w0 W : World} {g : Nat} {f0 : Int} {f1 : Int} {w' : World} {m : Nat} (hq : W.drewN m = w') (h : IsN63 w0 W g f0 f1) : IsN63 w0 w' g f0 f1 := by subst hq; exact IsN63.drewN h m
theorem IsN63.apart {w0 W : World} {g : Nat} {f0 : Int} {f1 : Int} {α : Type} {d : Kd α} {e : Nat} {base : Nat} {ok : Nat → Prop} {v : Value} {xs : List α} (h : IsN63 w0 W g f0 f1) (ho : d.R e W base ok v xs) (ht : ∀ q, q ∈ e :: d.E → q ≠ 63) : d.R e W base (fun k => ok k ∧ k ≠ g) v xs := by
  obtain ⟨hb, hg⟩ := h
  exact Kd.R_types ho hb ht
theorem IsN63.own_ne {w0 W : World} {g : Nat} {f0 : Int} {f1 : Int} {α : Type} {d : Kd α} {e : Nat} {base : Nat} {ok : Nat → Prop} {v : Value} {xs : List α} (h : IsN63 w0 W g f0 f1) (ho : d.R e W base ok v xs) (ht : e ≠ 63) : some g ≠ v.ownBlock := by
  obtain ⟨hb, hg⟩ := h
  exact Kd.R_ne ho hb ht
theorem IsN63.apartQ {w0 W : World} {g : Nat} {f0 : Int} {f1 : Int} {α : Type} {d : Kd α} {e : Nat} {base : Nat} {ok : Nat → Prop} {v : Value} {xs : List α} (h : IsN63 w0 W g f0 f1) (ho : d.Q e W base ok v xs) (ht : ∀ q, q ∈ e :: d.E → q ≠ 63) : d.Q e W base (fun k => ok k ∧ k ≠ g) v xs := by
  obtain ⟨hb, hg⟩ := h
  exact Kd.Q_types ho hb ht
theorem IsN63.own_neQ {w0 W : World} {g : Nat} {f0 : Int} {f1 : Int} {α : Type} {d : Kd α} {e : Nat} {base : Nat} {ok : Nat → Prop} {v : Value} {xs : List α} (h : IsN63 w0 W g f0 f1) (ho : d.Q e W base ok v xs) (ht : e ≠ 63) : some g ≠ v.ownBlock := by
  obtain ⟨hb, hg⟩ := h
  exact Kd.Q_ne ho hb ht
theorem IsN63.apartS {w0 W : World} {g : Nat} {f0 : Int} {f1 : Int} {α : Type} {d : Kd α} {e : Nat} {base : Nat} {ok : Nat → Prop} {v : Value} {xs : List α} (h : IsN63 w0 W g f0 f1) (ho : d.S e W base ok v xs) (ht : ∀ q, q ∈ e :: d.E → q ≠ 63) : d.S e W base (fun k => ok k ∧ k ≠ g) v xs := by
  obtain ⟨hb, hg⟩ := h
  exact Kd.S_types ho hb ht
theorem IsN63.own_neS {w0 W : World} {g : Nat} {f0 : Int} {f1 : Int} {α : Type} {d : Kd α} {e : Nat} {base : Nat} {ok : Nat → Prop} {v : Value} {xs : List α} (h : IsN63 w0 W g f0 f1) (ho : d.S e W base ok v xs) (ht : e ≠ 63) : some g ≠ v.ownBlock := by
  obtain ⟨hb, hg⟩ := h
  exact Kd.S_ne ho hb ht
theorem IsN63.lt {w0 W : World} {g : Nat} {f0 : Int} {f1 : Int} (h : IsN63 w0 W g f0 f1) : g < W.heap.size := by
  obtain ⟨hb, hg⟩ := h
  exact blk_lt hb
theorem IsN63.ge {w0 W : World} {g : Nat} {f0 : Int} {f1 : Int} (h : IsN63 w0 W g f0 f1) : w0.heap.size ≤ g := by
  obtain ⟨hb, hg⟩ := h
  exact hg
theorem IsN63.ne_blk {w0 W : World} {g : Nat} {f0 : Int} {f1 : Int} {a : Nat} {cs : Array Value} {t : TypeId} {fr : Nat × Nat} (h : IsN63 w0 W g f0 f1) (hb2 : W.heap[a]? = some (.cells cs t fr)) (ht : t ≠ 63) : g ≠ a := by
  obtain ⟨hb, hg⟩ := h
  rintro rfl
  rw [hb] at hb2
  injection hb2 with hb2
  injection hb2 with _ ht2
  exact ht ht2.symm
theorem IsN63.far {w0 W : World} {g : Nat} {f0 : Int} {f1 : Int} {p : Addr} (h : IsN63 w0 W g f0 f1) (hne : g ≠ p.block) (u : Value) : IsN63 w0 (W.setCell p u) g f0 f1 := by
  obtain ⟨hb, hg⟩ := h
  exact ⟨blk_far hb hne u, hg⟩
theorem cellN63_0 {W : World} {g : Nat} {f0 : Int} {f1 : Int} (h : W.heap[g]? = some (.cells #[.int .i64 f0, .int .i64 f1] 63 (0, 0))) : W.cell? ⟨g, 0, none⟩ = some (.int .i64 f0) := (blk_cell h 0).trans rfl
theorem IsN63.set_0 {w0 W : World} {g : Nat} {f0 : Int} {f1 : Int} (h : IsN63 w0 W g f0 f1) (x : Int) : IsN63 w0 (W.setCell ⟨g, 0, none⟩ (.int .i64 x)) g x f1 := by
  obtain ⟨hb, hg⟩ := h
  exact ⟨by simpa using blk_set hb 0 (.int .i64 x), hg⟩
theorem cellN63_1 {W : World} {g : Nat} {f0 : Int} {f1 : Int} (h : W.heap[g]? = some (.cells #[.int .i64 f0, .int .i64 f1] 63 (0, 0))) : W.cell? ⟨g, 1, none⟩ = some (.int .i64 f1) := (blk_cell h 1).trans rfl
theorem IsN63.set_1 {w0 W : World} {g : Nat} {f0 : Int} {f1 : Int} (h : IsN63 w0 W g f0 f1) (x : Int) : IsN63 w0 (W.setCell ⟨g, 1, none⟩ (.int .i64 x)) g f0 x := by
  obtain ⟨hb, hg⟩ := h
  exact ⟨by simpa using blk_set hb 1 (.int .i64 x), hg⟩
theorem IsN63.new (w0 W : World) (f0 : Int) (f1 : Int) (hB : Below w0.heap.size w0 W) : IsN63 w0 (W.alloc (.cells #[.int .i64 f0, .int .i64 f1] 63)) W.heap.size f0 f1 := ⟨by simpa using heap_alloc_new W _, hB.size⟩
theorem wp64 {n : Int} (h : -9223372036854775808 ≤ n) (h' : n ≤ 9223372036854775807) : wrap64 n = n := by unfold wrap64; omega
theorem heapP23 : Kd.Heap k23 := Kd.heap_iso _ (Kd.heap_pair (Kd.heap_int _) (Kd.heap_int _))
theorem drop_consP23 (l : List S23) (k : Nat) (h : k < l.length) : l.drop k = rd_T23 l k :: l.drop (k + 1) := by
  rw [List.drop_eq_getElem_cons h]; simp [rd_T23, List.getD, h]
def cutsL (n : Int) (l : List S23) : List S65 := l.flatMap fun x => if x.f1 ≤ x.f0 then [] else [⟨x.f0, 1, n⟩, ⟨x.f1, -1, n⟩]
theorem cutsL_cons (n : Int) (x : S23) (l : List S23) : cutsL n (x :: l) = (if x.f1 ≤ x.f0 then [] else [⟨x.f0, 1, n⟩, ⟨x.f1, -1, n⟩]) ++ cutsL n l := by simp [cutsL]
theorem cutsL_length (n : Int) (l : List S23) : (cutsL n l).length ≤ 2 * l.length := by
  induction l with
  | nil => simp [cutsL]
  | cons x l ih => rw [cutsL_cons, List.length_append, List.length_cons]; split <;> simp <;> omega
theorem cuts_l0 (c : Int) (l : List S23) (hl : l.length < 4611686018427387904) : ∀ (n K i : Nat) (xs : List S65), i + n = l.length → n < K → xs.length + 2 * n < 5864062014805 →
    spoorref06_cuts.l0 K xs l c (i : Int) = some (xs ++ cutsL c (l.drop i)) := by
  intro n
  induction n with
  | zero =>
    intro K i xs hi hK _
    obtain ⟨k, rfl⟩ : ∃ k, K = k + 1 := ⟨K - 1, by omega⟩
    unfold spoorref06_cuts.l0
    rw [if_neg (by omega), List.drop_eq_nil_of_le (by omega)]
    simp [cutsL]
  | succ n ih =>
    intro K i xs hi hK hx
    obtain ⟨k, rfl⟩ : ∃ k, K = k + 1 := ⟨K - 1, by omega⟩
    unfold spoorref06_cuts.l0
    have e1 : wrap64 ((i : Int) + 1) = ((i + 1 : Nat) : Int) := by rw [wp64 (by omega) (by omega)]; rfl
    rw [if_pos (by omega), if_pos (by omega), drop_consP23 l i (by omega), cutsL_cons, e1]
    unfold spoorref06_empty.f
    simp only [Option.bind_some, decide_eq_true_eq]
    by_cases h : (rd_T23 l i).f1 ≤ (rd_T23 l i).f0
    · rw [if_pos h, if_pos h, ih k (i + 1) xs (by omega) (by omega) (by omega)]; simp
    · rw [if_neg h, if_neg h]
      simp only [List.length_cons, List.length_nil]
      rw [if_pos (by omega), ih k (i + 1) _ (by omega) (by omega) (by simp; omega)]
      simp
theorem cuts_f (c : Int) (l : List S23) (xs : List S65) (hx : xs.length + 2 * l.length < 5864062014805) : spoorref06_cuts.f (l.length + 1) xs l c = some (xs ++ cutsL c l) := by
  have := cuts_l0 c l (by omega) l.length (l.length + 1) 0 xs (by omega) (by omega) hx
  exact this
def toEnd (c : S65) : S56 := ⟨c.f0, if c.f2 = 0 then (if c.f1 = 1 then 1 else 0) else (if c.f1 = 1 then 3 else 2)⟩
def allCuts (a b : List S23) : List S65 := cutsL 0 a ++ cutsL 1 b
theorem cuts_ends (l : List S23) : (cutsL 0 l).map toEnd = endsL 1 0 l ∧ (cutsL 1 l).map toEnd = endsL 3 2 l := by
  induction l with
  | nil => exact ⟨rfl, rfl⟩
  | cons x l ih =>
    rw [cutsL_cons, cutsL_cons, endsL_cons, endsL_cons, List.map_append, List.map_append, ih.1, ih.2]
    constructor <;> (split <;> simp [toEnd])
theorem allCuts_ends (a b : List S23) : (allCuts a b).map toEnd = allEnds a b := by
  unfold allCuts allEnds
  rw [List.map_append, (cuts_ends a).1, (cuts_ends b).2]
def GoodC (c : S65) : Prop := (c.f1 = 1 ∨ c.f1 = -1) ∧ (c.f2 = 0 ∨ c.f2 = 1)
theorem good_cuts (n : Int) (hn : n = 0 ∨ n = 1) (l : List S23) : ∀ c ∈ cutsL n l, GoodC c := by
  induction l with
  | nil => intro c hc; simp [cutsL] at hc
  | cons x l ih =>
    intro c hc
    rw [cutsL_cons] at hc
    rcases List.mem_append.1 hc with h | h
    · split at h
      · cases h
      · simp at h
        rcases h with rfl | rfl
        · exact ⟨.inl rfl, hn⟩
        · exact ⟨.inr rfl, hn⟩
    · exact ih c h
theorem good_all (a b : List S23) : ∀ c ∈ allCuts a b, GoodC c := by
  intro c hc
  rcases List.mem_append.1 hc with h | h
  · exact good_cuts 0 (.inl rfl) a c h
  · exact good_cuts 1 (.inr rfl) b c h
theorem toEnd_d {c : S65} (h : GoodC c) : dA (toEnd c).f1 = (if c.f2 = 0 then c.f1 else 0) ∧ dB (toEnd c).f1 = (if c.f2 = 0 then 0 else c.f1) := by
  obtain ⟨h1, h2⟩ := h
  unfold toEnd dA dB
  rcases h1 with h1 | h1 <;> rcases h2 with h2 | h2 <;> simp [h1, h2]
theorem pc_end (P : Int → Int → Bool) (x : S56) (a b : Int) (out : List S23) : pc P [x] a b out = out := by unfold pc; rfl
theorem pc_step (P : Int → Int → Bool) (x y : S56) (t : List S56) (a b : Int) (out : List S23) : pc P (x :: y :: t) a b out = pc P (y :: t) (a + dA x.f1) (b + dB x.f1) (if (decide (x.f0 = y.f0) || !P (a + dA x.f1) (b + dB x.f1)) = true then out else pushP out x.f0 y.f0) := by
  rw [pc]
theorem row_apart {w3 W W1 : World} {v u : Value} {xs : List S23} (h : Kd.R k23 23 W w3.heap.size (fun _ => True) v xs) (hg : W.grownBy W1 none) (hn : ∃ b, u.ownBlock = some b ∧ W.heap.size ≤ b) : Kd.R k23 23 W1 w3.heap.size (fun k => True ∧ some k ≠ u.ownBlock) v xs := by
  obtain ⟨b, hb, hle⟩ := hn
  refine Kd.R_mono (Kd.R_grown (Kd.R_bound h) hg (fun _ _ => by simp)) (fun k hk => ⟨trivial, ?_⟩)
  rw [hb]
  intro e
  have := hk.2.2.1
  cases e
  omega
theorem seg_row {base : Nat} {W : World} {go co : Nat} {out o : List S23} {z : S23} {y : Int} (h : Kd.R k23 23 W base (fun _ => True) (.slice (some ⟨go, 0, none⟩) out.length co) out) (ez : out = o ++ [z]) :
    Kd.R k23 23 (W.setCell ⟨go, o.length * 2 + 1, none⟩ (.int .i64 y)) base (fun _ => True) (.slice (some ⟨go, 0, none⟩) out.length co) (o ++ [⟨z.f0, y⟩]) ∧ W.grownBy (W.setCell ⟨go, o.length * 2 + 1, none⟩ (.int .i64 y)) (some go) := by
  have hlo : out.length = o.length + 1 := by rw [ez]; simp
  obtain ⟨ce, hcl, hM, hcc, hfr⟩ := Kd.R_elem h z23 (o.length : Int) (by omega) (by omega)
  obtain rfl := k23_openM hM
  have hs := Kd.R_seg h (o.length : Int) (by omega) (by omega) (seg := [.int .i64 y]) (j := 1) hcl hcc (show 2 ≤ 2 from by decide) (x' := (⟨z.f0, y⟩ : S23)) (okp := fun _ => False)
    (by have e : out.getD (o.length : Int).toNat z23 = z := by rw [ez]; simp [List.getD]
        have := k23_mkM W base (fun _ => False) (⟨z.f0, y⟩ : S23)
        rw [← e] at this ⊢
        exact this) (fun _ hk => hk.elim)
  have e2 : out.set (o.length : Int).toNat ⟨z.f0, y⟩ = o ++ [⟨z.f0, y⟩] := by rw [ez]; simp
  rw [e2] at hs
  exact hs
theorem snoc_of {l : List S23} (h : 0 < l.length) : ∃ o z, l = o ++ [z] := by
  rcases List.eq_nil_or_concat l with rfl | ⟨o, z, rfl⟩
  · cases h
  · exact ⟨o, z, by rw [List.concat_eq_append]⟩
def PiecesPost (wi : Bool) (l0 l1 : List S23) (w : World) (e : Ending) (w' : World) : Prop :=
  ∃ v0_ : Value, e = .returned (v0_) ∧ Kd.R k23 23 w' w.heap.size (fun _ => True) v0_ (piecesL wi l0 l1) ∧ Below w.heap.size w w'
set_option maxHeartbeats 1600000 in
set_option maxRecDepth 100000 in
theorem pieces_run (A0 : Option Addr) (c0 : Nat) (l0 : List S23) (A1 : Option Addr) (c1 : Nat) (l1 : List S23) (wi : Bool) (w : World) (h0 : Kd.C k23 w A0 l0.length l0) (hc0 : l0.length ≤ c0) (h1 : Kd.C k23 w A1 l1.length l1) (hc1 : l1.length ≤ c1)
    (hlen : 2 * (l0.length + l1.length) < 4294967296) :
    Calls Try.prog 42 #[.slice A0 l0.length c0, .slice A1 l1.length c1, .bool wi] w fun e w' => PiecesPost wi l0 l1 w e w' := by
  have L0 := cutsL_length 0 l0
  have L1 := cutsL_length 1 l1
  have e1 := cuts_f 0 l0 [] (by simp; omega)
  have e2 := cuts_f 1 l1 ([] ++ cutsL 0 l0) (by simp; omega)
  have H0 := Lib.hid h0
  have H1 := Lib.hid h1
  have E1 := Lib.hid e1
  have E2 := Lib.hid e2
  clear h0 h1 e1 e2
  go_enter Try.func42, Try.ntmps42
  go_wp2_with fail
  refine (spoorref06_cuts.calls (l0.length + 1) (fun _ => False) (.slice none 0 0) [] A0 c0 l0 0 ([] ++ cutsL 0 l0) w w (Below.refl _ _) (Kd.R_nil _ _ _ _ _) (Kd.C_kept_came heapP23 H0.out (Below.refl _ _) (fun k hk => hk.elim)) hc0 E1.out).mono ?_
  rintro e w1 ⟨va, rfl, hRa, hBa, hKa⟩
  have HRa := Lib.hid hRa
  have HBa := Lib.hid hBa
  clear hRa hBa hKa
  go_wp2_with fail
  refine (spoorref06_cuts.calls (l1.length + 1) (fun k => False ∨ w.heap.size ≤ k) va ([] ++ cutsL 0 l0) A1 c1 l1 1 ([] ++ cutsL 0 l0 ++ cutsL 1 l1) w w1 HBa.out HRa.out (Kd.C_kept_came heapP23 H1.out HBa.out (fun k hk => hk.elim (fun h => h.elim) id)) hc1 E2.out).mono ?_
  rintro e w2 ⟨vb, rfl, hRb, hBb, hKb⟩
  have HRb := Lib.hid (show Kd.R k65 65 w2 w.heap.size (fun _ => True) vb (allCuts l0 l1) from Kd.R_mono hRb (fun _ _ => trivial))
  have HBb := Lib.hid hBb
  clear hRb hBb hKb HRa HBa
  obtain ⟨Ab, cb, eb⟩ := Kd.R_slice HRb.out
  subst eb
  have hlA : (allCuts l0 l1).length < 4294967296 := by unfold allCuts; rw [List.length_append]; omega
  have hcb : (allCuts l0 l1).length ≤ cb := (Kd.R_reads' HRb.out).2.1
  have HCb := Lib.hid (Kd.R_reads' HRb.out).2.2
  have HG := Lib.hid (good_all l0 l1)
  have HAE := Lib.hid (allCuts_ends l0 l1)
  have HS := Lib.hid (sorted_run (allCuts l0 l1).length (allCuts l0 l1) Ab cb w2 (Nat.le_refl _) hlA hcb HCb.out)
  generalize allCuts l0 l1 = cs at *
  go_wp2_with fail
  refine HS.out.mono ?_
  rintro e w3 ⟨A, c, r, rfl, hn, hcA, hC, hp, hr, hB3⟩
  have HC := Lib.hid hC
  have HB3 := Lib.hid (HBb.out.trans (hB3.mono HBb.out.size))
  have HGr := Lib.hid (fun x (hx : x ∈ r) => HG.out x (hp.mem_iff.1 hx))
  have HP := Lib.hid (show (r.map toEnd).Perm (allEnds l0 l1) from HAE.out ▸ hp.map toEnd)
  have HR := Lib.hid (show Rising (r.map toEnd) from List.pairwise_map.2 (hr.imp (fun h => h)))
  have hln : r.length < 4294967296 := by omega
  clear hC hp hr hn HRb HBb HCb HS hB3 HG HAE hcb hlA L0 L1 E1 E2 hlen
  go_wp2_with fail
  have HI0 := Lib.hid (IsN63.new w3 w3 0 0 (Below.refl _ _))
  have HA0 := Lib.hid (below_alloc (Below.refl w3.heap.size w3) (.cells #[.int .i64 0, .int .i64 0] 63))
  generalize hnn : r.length = n at *
  go_loopw [9, 10] (fun v9 v10 wr => ∃ (i : Nat) (a b : Int) (out : List S23), v10 = .int .i64 i ∧ (i ≤ n) ∧ (i < n ∨ i = 0) ∧ out.length ≤ i ∧ Hid (-(i : Int) ≤ a ∧ a ≤ i ∧ -(i : Int) ≤ b ∧ b ≤ i) ∧ Hid (IsN63 w3 wr w3.heap.size a b) ∧
      Hid (Kd.R k23 23 wr w3.heap.size (fun _ => True) v9 out) ∧ Hid (Below w3.heap.size w3 wr) ∧ Hid (pc (pW wi) ((r.map toEnd).drop i) a b out = pc (pW wi) (r.map toEnd) 0 0 [])) (fun _ v10 _ => n - (intOf v10).toNat)
  case atStart => exact ⟨0, 0, 0, [], rfl, Nat.zero_le _, .inr rfl, Nat.le_refl _, Lib.hid (by omega), HI0, Lib.hid (Kd.R_nil _ _ _ _ _), HA0, Lib.hid rfl⟩
  case round =>
    obtain ⟨i, a, b, out, rfl, hi, hi2, ho, HAB, HI, HO, HB, HE⟩ := hrel
    by_cases hlt : i + 1 < n
    · obtain ⟨ad, rfl, hx0, hx1, hx2⟩ := at_T65 (Kd.C_below HC.out HB.out) (i : Int) (by omega) (by omega)
      obtain ⟨ad', had, hy0, hy1, hy2⟩ := at_T65 (Kd.C_below HC.out HB.out) ((i + 1 : Nat) : Int) (by omega) (by omega)
      cases had
      simp only [Int.toNat_natCast] at hx0 hx1 hx2 hy0 hy1 hy2
      have HD := Lib.hid (drop_cons65 r i (by omega))
      have HD2 := Lib.hid (drop_cons65 r (i + 1) (by omega))
      have hgx := HGr.out (rd_T65 r (i : Int)) (by unfold rd_T65; simp [List.getD, List.getElem?_eq_getElem (show i < r.length by omega)])
      generalize hxx : rd_T65 r (i : Int) = x at *
      generalize hyy : rd_T65 r ((i + 1 : Nat) : Int) = y at *
      have hd := toEnd_d hgx
      have hN0 := cellN63_0 HI.out.1
      have hN1 := cellN63_1 HI.out.1
      have hF0 := blk_frozen HI.out.1 0
      have hF1 := blk_frozen HI.out.1 1
      have hlt1 : decide (((i : Int) + 1) < (n : Int)) = true := decide_eq_true (by omega)
      obtain ⟨hx1r, hx2r⟩ := hgx
      have HX := Lib.hid hd
      have HGX := Lib.hid hx1r
      clear hd hx1r
      rcases hx2r with hl | hl
      · rw [hl] at hx2
        go_wp2_with fail
        go_region
        have hw5 : wrap64 (a + x.f1) = a + x.f1 := wp64 (by have := HAB.out; have := HGX.out; omega) (by have := HAB.out; have := HGX.out; omega)
        rw [hw5]
        have HI5 := Lib.hid (HI.out.set_0 (a + x.f1))
        replace HI5 := Lib.hid HI5.out.drew
        have HO5 := Lib.hid (Kd.R_mono (ok' := fun _ => True) (Kd.R_drew (Kd.R_far (HI.out.apart HO.out (by decide)) (p := ⟨w3.heap.size, 0, none⟩) (fun k hk => hk.2) (.int .i64 (a + x.f1)))) (fun _ _ => trivial))
        have HB5 := Lib.hid (below_drew1 (below_set (j := 0) (v := .int .i64 (a + x.f1)) HB.out (Nat.le_refl _)))
        generalize (wr.setCell ⟨w3.heap.size, 0, none⟩ (.int .i64 (a + x.f1))).drew = w5 at *
        have HAB5 := Lib.hid (show -((i + 1 : Nat) : Int) ≤ (a + x.f1) ∧ (a + x.f1) ≤ ((i + 1 : Nat) : Int) ∧ -((i + 1 : Nat) : Int) ≤ b ∧ b ≤ ((i + 1 : Nat) : Int) by have := HAB.out; have := HGX.out; omega)
        have hE1 : (r.map toEnd).drop i = toEnd x :: (r.map toEnd).drop (i + 1) := by rw [← List.map_drop, HD.out, List.map_cons, List.map_drop]
        have hE2 : (r.map toEnd).drop (i + 1) = toEnd y :: (r.map toEnd).drop (i + 1 + 1) := by rw [← List.map_drop, HD2.out, List.map_cons, List.map_drop]
        have HQ := Lib.hid (show pc (pW wi) ((r.map toEnd).drop (i + 1)) (a + x.f1) b (if (decide (x.f0 = y.f0) || !pW wi (a + x.f1) b) = true then out else pushP out x.f0 y.f0) = pc (pW wi) (r.map toEnd) 0 0 [] by
          rw [← HE.out, hE1, hE2, pc_step, HX.out.1, HX.out.2, if_pos hl, if_pos hl]; simp only [Int.add_zero]; rfl)
        clear HI HO HB HAB HX HGX HD HD2 HE hx0 hx1 hx2 hy0 hy1 hy2 hN0 hN1 hF0 hF1 hw5 hE1 hE2
        generalize a + x.f1 = a5 at *
        obtain ⟨ad2, ha2, hx0, hx1, hx2⟩ := at_T65 (Kd.C_below HC.out HB5.out) (i : Int) (by omega) (by omega)
        cases ha2
        obtain ⟨ad3, ha3, hy0, hy1, hy2⟩ := at_T65 (Kd.C_below HC.out HB5.out) ((i + 1 : Nat) : Int) (by omega) (by omega)
        cases ha3
        simp only [Int.toNat_natCast, hxx, hyy] at hx0 hx1 hx2 hy0 hy1 hy2
        have hN0 := cellN63_0 HI5.out.1
        have hN1 := cellN63_1 HI5.out.1
        by_cases heq : x.f0 = y.f0
        · have hq0 : (x.f0 == y.f0) = true := beq_iff_eq.mpr heq
          go_wp2_with fail
          go_quiet (fail)
          go_wp2_with fail
          have HI6 := Lib.hid (HI5.out.drewN nq)
          have HO6 := Lib.hid (Kd.R_drewN HO5.out nq)
          have HB6 := Lib.hid (pw_below_drewN HB5.out nq)
          go_roundw
          case rel => exact ⟨i + 1, a5, b, out, by go_num, by omega, .inl hlt, by omega, HAB5, HI6, HO6, HB6, Lib.hid (by rw [← HQ.out, if_pos (by simp [heq])])⟩
          case measure => simp [intOf]; omega
        have hq0 : (x.f0 == y.f0) = false := beq_eq_false_iff_ne.mpr heq
        by_cases ha0 : a5 ≤ 0
        · have hq1 : decide (a5 ≤ 0) = true := decide_eq_true ha0
          go_wp2_with fail
          go_quiet (fail)
          go_wp2_with fail
          have HI6 := Lib.hid (HI5.out.drewN nq)
          have HO6 := Lib.hid (Kd.R_drewN HO5.out nq)
          have HB6 := Lib.hid (pw_below_drewN HB5.out nq)
          go_roundw
          case rel => exact ⟨i + 1, a5, b, out, by go_num, by omega, .inl hlt, by omega, HAB5, HI6, HO6, HB6, Lib.hid (by rw [← HQ.out, if_pos (by simp [pW]; omega)])⟩
          case measure => simp [intOf]; omega
        have hq1 : decide (a5 ≤ 0) = false := decide_eq_false ha0
        by_cases hb0 : b > 0
        · have hq2 : decide (b > 0) = true := decide_eq_true hb0
          cases wi
          · have HPq := Lib.hid (show pW false a5 b = false by simp [pW, hb0])
            go_wp2_with fail
            go_quiet (fail)
            go_wp2_with fail
            have HI6 := Lib.hid (HI5.out.drewN nq)
            have HO6 := Lib.hid (Kd.R_drewN HO5.out nq)
            have HB6 := Lib.hid (pw_below_drewN HB5.out nq)
            go_roundw
            case rel => exact ⟨i + 1, a5, b, out, by go_num, by omega, .inl hlt, by omega, HAB5, HI6, HO6, HB6, Lib.hid (by rw [← HQ.out, if_pos (by simp [HPq.out])])⟩
            case measure => simp [intOf]; omega
          · have HPq := Lib.hid (show pW true a5 b = true by simp [pW, hb0]; omega)
            go_wp2_with fail
            go_quiet (fail)
            have HI6 := Lib.hid (HI5.out.drewN nq)
            have HO6 := Lib.hid (Kd.R_drewN HO5.out nq)
            have HB6 := Lib.hid (pw_below_drewN HB5.out nq)
            generalize w5.drewN nq = w6 at *
            clear HI5 HO5 HB5 hx0 hx1 hx2 hy0 hy1 hy2 hN0 hN1
            have HQ2 := Lib.hid (show pc (pW _) ((r.map toEnd).drop (i + 1)) a5 b (pushP out x.f0 y.f0) = pc (pW _) (r.map toEnd) 0 0 [] by rw [← HQ.out, if_neg (by simp [heq, HPq.out])])
            obtain ⟨ad2, ha2, hx0, hx1, hx2⟩ := at_T65 (Kd.C_below HC.out HB6.out) (i : Int) (by omega) (by omega)
            cases ha2
            obtain ⟨ad3, ha3, hy0, hy1, hy2⟩ := at_T65 (Kd.C_below HC.out HB6.out) ((i + 1 : Nat) : Int) (by omega) (by omega)
            cases ha3
            simp only [Int.toNat_natCast, hxx, hyy] at hx0 hx1 hx2 hy0 hy1 hy2
            obtain ⟨Ao, co, es⟩ := Kd.R_slice HO6.out
            subst es
            by_cases hz : 0 < out.length
            · have hk0 : decide ((out.length : Int) > 0) = true := decide_eq_true (by omega)
              obtain ⟨o, z, ez⟩ := snoc_of hz
              have hlo : out.length = o.length + 1 := by rw [ez]; simp
              obtain ⟨go, cg, eo, hgb, hgl, gcells, HGg⟩ := Kd.R_form HO6.out hz
              cases eo
              obtain ⟨ce, hcl, hM, hcc, hfr⟩ := Kd.R_elem HO6.out z23 (o.length : Int) (by omega) (by omega)
              obtain rfl := k23_openM hM
              have ezz : out.getD (o.length : Int).toNat z23 = z := by rw [ez]; simp [List.getD]
              have hz1 : w6.cell? ⟨go, o.length * 2 + 1, none⟩ = some (.int .i64 z.f1) := by have h := hcc 1 _ rfl; rw [← ezz]; exact h
              have hz1f : w6.frozen? ⟨go, o.length * 2 + 1, none⟩ = false := hfr 1
              clear hcl hcc hfr hM ezz
              have hidx : (out.length : Int) - 1 = (o.length : Int) := by omega
              have hidx2 : (o.length : Int) < (out.length : Int) := by omega
              have HEZ := Lib.hid ez
              have HLO := Lib.hid hlo
              clear hlo HGg
              by_cases hzx : z.f1 = x.f0
              · have hzx1 : (z.f1 == x.f0) = true := beq_iff_eq.mpr hzx
                clear ez
                go_wp2_with fail
                go_quiet (fail)
                have HI7 := Lib.hid (HI6.out.drewN nq)
                have HO7 := Lib.hid (Kd.R_drewN HO6.out nq)
                have HB7 := Lib.hid (pw_below_drewN HB6.out nq)
                replace hx0 : (w6.drewN nq).cell? (ad.add (i * 3)) = some (.int .i64 x.f0) := hx0
                replace hy0 : (w6.drewN nq).cell? (ad.add ((i + 1) * 3)) = some (.int .i64 y.f0) := hy0
                clear hz1 hz1f
                generalize w6.drewN nq = w7 at *
                have ez := HEZ.out
                obtain ⟨ce, hcl, hM, hcc, hfr⟩ := Kd.R_elem HO7.out z23 (o.length : Int) (by omega) (by omega)
                obtain rfl := k23_openM hM
                have ezz : out.getD (o.length : Int).toNat z23 = z := by rw [ez]; simp [List.getD]
                have hz1 : w7.cell? ⟨go, o.length * 2 + 1, none⟩ = some (.int .i64 z.f1) := by have h := hcc 1 _ rfl; rw [← ezz]; exact h
                have hz1f : w7.frozen? ⟨go, o.length * 2 + 1, none⟩ = false := hfr 1
                clear hcl hcc hfr hM ezz
                skip
                have HSEG := Lib.hid (seg_row (y := y.f0) HO7.out ez)
                clear ez
                have HI8 := Lib.hid (HI7.out.far (p := ⟨go, o.length * 2 + 1, none⟩) (fun e => HI7.out.own_ne HO7.out (by decide) (congrArg some e)) (.int .i64 y.f0))
                have HB8 := Lib.hid (below_set (j := o.length * 2 + 1) (v := .int .i64 y.f0) HB7.out (Kd.R_base HO7.out go rfl))
                have HO8 := Lib.hid HSEG.out.1
                clear HI7 HO7 HB7 HSEG
                go_wp2_with fail
                go_roundw
                case rel => exact ⟨i + 1, a5, b, o ++ [⟨z.f0, y.f0⟩], by go_num, by omega, .inl hlt, by have := HLO.out; simp; omega, HAB5, HI8, HO8, HB8, Lib.hid (by rw [← HQ2.out, HEZ.out, pushP_snoc, if_pos hzx])⟩
                case measure => simp [intOf]; omega
              · have hzx1 : (z.f1 == x.f0) = false := beq_eq_false_iff_ne.mpr hzx
                clear ez
                go_wp2_with fail
                go_quiet (fail)
                go_wp2_with fail
                have HI7 := Lib.hid (HI6.out.drewN nq)
                have HO7 := Lib.hid (Kd.R_drewN HO6.out nq)
                have HB7 := Lib.hid (pw_below_drewN HB6.out nq)
                replace hx0 : (w6.drewN nq).cell? (ad.add (i * 3)) = some (.int .i64 x.f0) := hx0
                replace hy0 : (w6.drewN nq).cell? (ad.add ((i + 1) * 3)) = some (.int .i64 y.f0) := hy0
                clear hz1 hz1f
                generalize w6.drewN nq = w7 at *
                have hin : i < n := by omega
                have h0i : 0 ≤ (i : Int) + 1 := by omega
                have h1i : (i : Int) + 1 < (n : Int) := by omega
                have hti : ((i : Int) + 1).toNat = i + 1 := by omega
                have hwi : wrap64 ((i : Int) + 1) = (i : Int) + 1 := wp64 (by omega) (by omega)
                refine start_ (n := 16) (S := fun w' => w'.cell? (ad.add (i * 3)) = some (.int .i64 x.f0) ∧ w'.cell? (ad.add ((i + 1) * 3)) = some (.int .i64 y.f0)) (ds := [14]) #[false, false, false, false, false, false, false, false, false, false, false, false, false, false, false, false] (by kernel_rfl) rfl rfl ⟨hx0, hy0⟩ (fun hHeld => ?_)
                have HI8 := Lib.hid HI7.out.drew
                have HO8 := Lib.hid (Kd.R_drew HO7.out)
                have HB8 := Lib.hid (below_drew1 HB7.out)
                refine pz_ (i := 0) (N := some 98) #[true, false, false, false, false, false, false, false, false, false, false, false, false, false, false, false] (by kernel_rfl) ?_
                refine pz_ (i := 1) (N := some 99) #[true, true, false, false, false, false, false, false, false, false, false, false, false, false, false, false] (by kernel_rfl) ?_
                refine pz_ (i := 2) (N := some 100) #[true, true, true, false, false, false, false, false, false, false, false, false, false, false, false, false] (by kernel_rfl) ?_
                refine pz_ (i := 3) (N := some 101) #[true, true, true, true, false, false, false, false, false, false, false, false, false, false, false, false] (by kernel_rfl) ?_
                refine pz_ (i := 4) (N := some 102) #[true, true, true, true, true, false, false, false, false, false, false, false, false, false, false, false] (by kernel_rfl) ?_
                refine tz_ (i := 5) (N := some 103) #[true, true, true, true, true, true, false, false, false, false, false, false, false, false, false, false] (by kernel_rfl) hHeld ?_
                refine pz_ (i := 6) (N := some 104) #[true, true, true, true, true, true, true, false, false, false, false, false, false, false, false, false] (by kernel_rfl) ?_
                refine pz_ (i := 7) (N := some 105) #[true, true, true, true, true, true, true, true, false, false, false, false, false, false, false, false] (by kernel_rfl) ?_
                refine pz_ (i := 8) (N := some 106) #[true, true, true, true, true, true, true, true, true, false, false, false, false, false, false, false] (by kernel_rfl) ?_
                refine pz_ (i := 9) (N := some 107) #[true, true, true, true, true, true, true, true, true, true, false, false, false, false, false, false] (by kernel_rfl) ?_
                refine pz_ (i := 10) (N := some 108) #[true, true, true, true, true, true, true, true, true, true, true, false, false, false, false, false] (by kernel_rfl) ?_
                refine tz_ (i := 11) (N := some 109) #[true, true, true, true, true, true, true, true, true, true, true, true, false, false, false, false] (by kernel_rfl) hHeld ?_
                refine pz_ (i := 12) (N := some 110) #[true, true, true, true, true, true, true, true, true, true, true, true, true, false, false, false] (by kernel_rfl) ?_
                clear hwi hti h0i h1i
                refine one_ (i := 13) (N := some 111) #[true, true, true, true, true, true, true, true, true, true, true, true, true, true, false, false] rfl rfl (by kernel_rfl) (by decide) (fun K hK => ?_)
                refine Kd.R_lit_step k23 (w0 := w3) w3.heap.size 23 ?hg (N := 111) ?hd (xs := ([(⟨x.f0, y.f0⟩ : S23)] : List S23)) (inner := [.int .i64 x.f0, .int .i64 y.f0]) (ok := fun _ => True) (okp := fun _ => True) ?hr ?hp (fun _ hk => hk) trivial HB8.out HB8.out.size (by simp) ?_; (case hd => rfl); (case hg => rfl); (case hr => first | (go_simp; done) | (go_simp; rfl)); (case hp => exact (Reps.c2 (show Kd.M k23 _ _ _ (⟨x.f0, y.f0⟩ : S23) [.int .i64 x.f0, .int .i64 y.f0] from (k23_mkM _ _ _ (⟨x.f0, y.f0⟩ : S23))) (Reps.none _ _)))
                intro v9 w9 hr9 hb9 hg9 hnew9
                have HS0 := (Kd.C_below HC.out hb9)
                have hS : w9.cell? (ad.add (i * 3)) = some (.int .i64 x.f0) ∧ w9.cell? (ad.add ((i + 1) * 3)) = some (.int .i64 y.f0) := ⟨cell_grown hg9 hHeld.1 (by simp), cell_grown hg9 hHeld.2 (by simp)⟩
                have HL := Lib.hid hr9
                have HB9 := Lib.hid hb9
                have HI9 := Lib.hid (HI8.out.grown hg9 (by simp))
                have HO9 := Lib.hid (row_apart HO8.out hg9 hnew9)
                clear hr9 hb9 hg9 hnew9 HS0 HI8 HO8 HB8
                obtain ⟨Al, cl, el⟩ := Kd.R_slice HL.out
                subst el
                refine hK.out _ _ hS (fun hHeld => ?_)
                clear hK K
                refine norm_ (a' := ?_) ?_ ?_
                rotate_left
                · show Act.put _ (some 111) _ = _
                  simp only [Act.put, List.setIfInBounds_toArray, List.set_cons_zero, List.set_cons_succ, i64_w, i32_w]
                  rfl
                refine last_ (i := 14) (N := some 112) #[true, true, true, true, true, true, true, true, true, true, true, true, true, true, true, false] rfl rfl (by kernel_rfl) (by decide) (fun K hK => ?_)
                refine Kd.R_append_rows_step k23 (w0 := w3) w3.heap.size (by rfl) (.tmp 98) (.tmp 111) 29 23 (.agg #[(.int .i64 0), (.int .i64 0)]) 16 rfl Try.underlying29 info23 rfl (by decide) (by omega) (.slice (some ⟨go, 0, none⟩) out.length co) out [(⟨x.f0, y.f0⟩ : S23)] Al _ _ (fun k => (True ∧ some k ≠ (Value.slice Al ([(⟨x.f0, y.f0⟩ : S23)] : List S23).length cl).ownBlock) ∧ k ≠ w3.heap.size) (fun _ => False) rfl rfl ?aO ?aR (fun _ _ h => h) (fun _ h => h.elim) ?aF ?aB ?aS ?aL ?_
                (case aR => exact (Kd.R_reads' HL.out).2.2)
                (case aB => exact HB9.out)
                (case aF => exact fun k hk => ⟨⟨trivial, Kd.fresh' (Kd.R_lt HL.out) k hk⟩, by have := HI9.out.lt; omega⟩)
                (case aO => exact HI9.out.apart HO9.out (by decide))
                (case aS => exact HB9.out.size)
                (case aL => simp; omega)
                intro v10 w10 hr10 hb10 hg10 hat10
                have HO10 := Lib.hid (Kd.R_mono (ok' := fun _ => True) hr10 (fun _ _ => trivial))
                have HB10 := Lib.hid hb10
                have HI10 := Lib.hid (HI9.out.grown hg10 (HI9.out.own_ne HO9.out (by decide)))
                clear hr10 hb10 hg10 hat10 HI9 HO9 HB9 HL
                refine hK.out _ _ ?_
                clear hK K
                refine norm_ (a' := ?_) ?_ ?_
                rotate_left
                · show Act.put _ (some 112) _ = _
                  simp only [Act.put, List.setIfInBounds_toArray, List.set_cons_zero, List.set_cons_succ, i64_w, i32_w]
                  rfl
                refine pz_ (i := 15) (N := some 9) #[true, true, true, true, true, true, true, true, true, true, true, true, true, true, true, true] (by kernel_rfl) ?_
                refine done_ (by kernel_rfl) ?_
                try go_wp2
                go_roundw
                case rel => exact ⟨i + 1, a5, b, out ++ [⟨x.f0, y.f0⟩], by go_num, by omega, .inl hlt, by simp; omega, HAB5, HI10, HO10, HB10, Lib.hid (by rw [← HQ2.out, HEZ.out, pushP_snoc, if_neg hzx])⟩
                case measure => simp [intOf]; omega
            · have hk0 : decide ((out.length : Int) > 0) = false := decide_eq_false (by omega)
              have hoe : out = [] := List.eq_nil_of_length_eq_zero (by omega)
              have HOE := Lib.hid hoe
              clear hoe
              go_wp2_with fail
              go_quiet (fail)
              go_wp2_with fail
              have HI7 := Lib.hid (HI6.out.drewN nq)
              have HO7 := Lib.hid (Kd.R_drewN HO6.out nq)
              have HB7 := Lib.hid (pw_below_drewN HB6.out nq)
              replace hx0 : (w6.drewN nq).cell? (ad.add (i * 3)) = some (.int .i64 x.f0) := hx0
              replace hy0 : (w6.drewN nq).cell? (ad.add ((i + 1) * 3)) = some (.int .i64 y.f0) := hy0
              generalize w6.drewN nq = w7 at *
              have hin : i < n := by omega
              have h0i : 0 ≤ (i : Int) + 1 := by omega
              have h1i : (i : Int) + 1 < (n : Int) := by omega
              have hti : ((i : Int) + 1).toNat = i + 1 := by omega
              have hwi : wrap64 ((i : Int) + 1) = (i : Int) + 1 := wp64 (by omega) (by omega)
              refine start_ (n := 16) (S := fun w' => w'.cell? (ad.add (i * 3)) = some (.int .i64 x.f0) ∧ w'.cell? (ad.add ((i + 1) * 3)) = some (.int .i64 y.f0)) (ds := [14]) #[false, false, false, false, false, false, false, false, false, false, false, false, false, false, false, false] (by kernel_rfl) rfl rfl ⟨hx0, hy0⟩ (fun hHeld => ?_)
              have HI8 := Lib.hid HI7.out.drew
              have HO8 := Lib.hid (Kd.R_drew HO7.out)
              have HB8 := Lib.hid (below_drew1 HB7.out)
              refine pz_ (i := 0) (N := some 98) #[true, false, false, false, false, false, false, false, false, false, false, false, false, false, false, false] (by kernel_rfl) ?_
              refine pz_ (i := 1) (N := some 99) #[true, true, false, false, false, false, false, false, false, false, false, false, false, false, false, false] (by kernel_rfl) ?_
              refine pz_ (i := 2) (N := some 100) #[true, true, true, false, false, false, false, false, false, false, false, false, false, false, false, false] (by kernel_rfl) ?_
              refine pz_ (i := 3) (N := some 101) #[true, true, true, true, false, false, false, false, false, false, false, false, false, false, false, false] (by kernel_rfl) ?_
              refine pz_ (i := 4) (N := some 102) #[true, true, true, true, true, false, false, false, false, false, false, false, false, false, false, false] (by kernel_rfl) ?_
              refine tz_ (i := 5) (N := some 103) #[true, true, true, true, true, true, false, false, false, false, false, false, false, false, false, false] (by kernel_rfl) hHeld ?_
              refine pz_ (i := 6) (N := some 104) #[true, true, true, true, true, true, true, false, false, false, false, false, false, false, false, false] (by kernel_rfl) ?_
              refine pz_ (i := 7) (N := some 105) #[true, true, true, true, true, true, true, true, false, false, false, false, false, false, false, false] (by kernel_rfl) ?_
              refine pz_ (i := 8) (N := some 106) #[true, true, true, true, true, true, true, true, true, false, false, false, false, false, false, false] (by kernel_rfl) ?_
              refine pz_ (i := 9) (N := some 107) #[true, true, true, true, true, true, true, true, true, true, false, false, false, false, false, false] (by kernel_rfl) ?_
              refine pz_ (i := 10) (N := some 108) #[true, true, true, true, true, true, true, true, true, true, true, false, false, false, false, false] (by kernel_rfl) ?_
              refine tz_ (i := 11) (N := some 109) #[true, true, true, true, true, true, true, true, true, true, true, true, false, false, false, false] (by kernel_rfl) hHeld ?_
              refine pz_ (i := 12) (N := some 110) #[true, true, true, true, true, true, true, true, true, true, true, true, true, false, false, false] (by kernel_rfl) ?_
              clear hwi hti h0i h1i
              refine one_ (i := 13) (N := some 111) #[true, true, true, true, true, true, true, true, true, true, true, true, true, true, false, false] rfl rfl (by kernel_rfl) (by decide) (fun K hK => ?_)
              refine Kd.R_lit_step k23 (w0 := w3) w3.heap.size 23 ?hg (N := 111) ?hd (xs := ([(⟨x.f0, y.f0⟩ : S23)] : List S23)) (inner := [.int .i64 x.f0, .int .i64 y.f0]) (ok := fun _ => True) (okp := fun _ => True) ?hr ?hp (fun _ hk => hk) trivial HB8.out HB8.out.size (by simp) ?_; (case hd => rfl); (case hg => rfl); (case hr => first | (go_simp; done) | (go_simp; rfl)); (case hp => exact (Reps.c2 (show Kd.M k23 _ _ _ (⟨x.f0, y.f0⟩ : S23) [.int .i64 x.f0, .int .i64 y.f0] from (k23_mkM _ _ _ (⟨x.f0, y.f0⟩ : S23))) (Reps.none _ _)))
              intro v9 w9 hr9 hb9 hg9 hnew9
              have HS0 := (Kd.C_below HC.out hb9)
              have hS : w9.cell? (ad.add (i * 3)) = some (.int .i64 x.f0) ∧ w9.cell? (ad.add ((i + 1) * 3)) = some (.int .i64 y.f0) := ⟨cell_grown hg9 hHeld.1 (by simp), cell_grown hg9 hHeld.2 (by simp)⟩
              have HL := Lib.hid hr9
              have HB9 := Lib.hid hb9
              have HI9 := Lib.hid (HI8.out.grown hg9 (by simp))
              have HO9 := Lib.hid (row_apart HO8.out hg9 hnew9)
              clear hr9 hb9 hg9 hnew9 HS0 HI8 HO8 HB8
              obtain ⟨Al, cl, el⟩ := Kd.R_slice HL.out
              subst el
              refine hK.out _ _ hS (fun hHeld => ?_)
              clear hK K
              refine norm_ (a' := ?_) ?_ ?_
              rotate_left
              · show Act.put _ (some 111) _ = _
                simp only [Act.put, List.setIfInBounds_toArray, List.set_cons_zero, List.set_cons_succ, i64_w, i32_w]
                rfl
              refine last_ (i := 14) (N := some 112) #[true, true, true, true, true, true, true, true, true, true, true, true, true, true, true, false] rfl rfl (by kernel_rfl) (by decide) (fun K hK => ?_)
              refine Kd.R_append_rows_step k23 (w0 := w3) w3.heap.size (by rfl) (.tmp 98) (.tmp 111) 29 23 (.agg #[(.int .i64 0), (.int .i64 0)]) 16 rfl Try.underlying29 info23 rfl (by decide) (by omega) (.slice Ao out.length co) out [(⟨x.f0, y.f0⟩ : S23)] Al _ _ (fun k => (True ∧ some k ≠ (Value.slice Al ([(⟨x.f0, y.f0⟩ : S23)] : List S23).length cl).ownBlock) ∧ k ≠ w3.heap.size) (fun _ => False) rfl rfl ?aO ?aR (fun _ _ h => h) (fun _ h => h.elim) ?aF ?aB ?aS ?aL ?_
              (case aR => exact (Kd.R_reads' HL.out).2.2)
              (case aB => exact HB9.out)
              (case aF => exact fun k hk => ⟨⟨trivial, Kd.fresh' (Kd.R_lt HL.out) k hk⟩, by have := HI9.out.lt; omega⟩)
              (case aO => exact HI9.out.apart HO9.out (by decide))
              (case aS => exact HB9.out.size)
              (case aL => simp; omega)
              intro v10 w10 hr10 hb10 hg10 hat10
              have HO10 := Lib.hid (Kd.R_mono (ok' := fun _ => True) hr10 (fun _ _ => trivial))
              have HB10 := Lib.hid hb10
              have HI10 := Lib.hid (HI9.out.grown hg10 (HI9.out.own_ne HO9.out (by decide)))
              clear hr10 hb10 hg10 hat10 HI9 HO9 HB9 HL
              refine hK.out _ _ ?_
              clear hK K
              refine norm_ (a' := ?_) ?_ ?_
              rotate_left
              · show Act.put _ (some 112) _ = _
                simp only [Act.put, List.setIfInBounds_toArray, List.set_cons_zero, List.set_cons_succ, i64_w, i32_w]
                rfl
              refine pz_ (i := 15) (N := some 9) #[true, true, true, true, true, true, true, true, true, true, true, true, true, true, true, true] (by kernel_rfl) ?_
              refine done_ (by kernel_rfl) ?_
              try go_wp2
              go_roundw
              case rel => exact ⟨i + 1, a5, b, out ++ [⟨x.f0, y.f0⟩], by go_num, by omega, .inl hlt, by simp; omega, HAB5, HI10, HO10, HB10, Lib.hid (by rw [← HQ2.out, HOE.out]; rfl)⟩
              case measure => simp [intOf]; omega
        · have hq2 : decide (b > 0) = false := decide_eq_false hb0
          cases wi
          · have HPq := Lib.hid (show pW false a5 b = true by simp [pW, hb0]; omega)
            go_wp2_with fail
            go_quiet (fail)
            have HI6 := Lib.hid (HI5.out.drewN nq)
            have HO6 := Lib.hid (Kd.R_drewN HO5.out nq)
            have HB6 := Lib.hid (pw_below_drewN HB5.out nq)
            generalize w5.drewN nq = w6 at *
            clear HI5 HO5 HB5 hx0 hx1 hx2 hy0 hy1 hy2 hN0 hN1
            have HQ2 := Lib.hid (show pc (pW _) ((r.map toEnd).drop (i + 1)) a5 b (pushP out x.f0 y.f0) = pc (pW _) (r.map toEnd) 0 0 [] by rw [← HQ.out, if_neg (by simp [heq, HPq.out])])
            obtain ⟨ad2, ha2, hx0, hx1, hx2⟩ := at_T65 (Kd.C_below HC.out HB6.out) (i : Int) (by omega) (by omega)
            cases ha2
            obtain ⟨ad3, ha3, hy0, hy1, hy2⟩ := at_T65 (Kd.C_below HC.out HB6.out) ((i + 1 : Nat) : Int) (by omega) (by omega)
            cases ha3
            simp only [Int.toNat_natCast, hxx, hyy] at hx0 hx1 hx2 hy0 hy1 hy2
            obtain ⟨Ao, co, es⟩ := Kd.R_slice HO6.out
            subst es
            by_cases hz : 0 < out.length
            · have hk0 : decide ((out.length : Int) > 0) = true := decide_eq_true (by omega)
              obtain ⟨o, z, ez⟩ := snoc_of hz
              have hlo : out.length = o.length + 1 := by rw [ez]; simp
              obtain ⟨go, cg, eo, hgb, hgl, gcells, HGg⟩ := Kd.R_form HO6.out hz
              cases eo
              obtain ⟨ce, hcl, hM, hcc, hfr⟩ := Kd.R_elem HO6.out z23 (o.length : Int) (by omega) (by omega)
              obtain rfl := k23_openM hM
              have ezz : out.getD (o.length : Int).toNat z23 = z := by rw [ez]; simp [List.getD]
              have hz1 : w6.cell? ⟨go, o.length * 2 + 1, none⟩ = some (.int .i64 z.f1) := by have h := hcc 1 _ rfl; rw [← ezz]; exact h
              have hz1f : w6.frozen? ⟨go, o.length * 2 + 1, none⟩ = false := hfr 1
              clear hcl hcc hfr hM ezz
              have hidx : (out.length : Int) - 1 = (o.length : Int) := by omega
              have hidx2 : (o.length : Int) < (out.length : Int) := by omega
              have HEZ := Lib.hid ez
              have HLO := Lib.hid hlo
              clear hlo HGg
              by_cases hzx : z.f1 = x.f0
              · have hzx1 : (z.f1 == x.f0) = true := beq_iff_eq.mpr hzx
                clear ez
                go_wp2_with fail
                go_quiet (fail)
                have HI7 := Lib.hid (HI6.out.drewN nq)
                have HO7 := Lib.hid (Kd.R_drewN HO6.out nq)
                have HB7 := Lib.hid (pw_below_drewN HB6.out nq)
                replace hx0 : (w6.drewN nq).cell? (ad.add (i * 3)) = some (.int .i64 x.f0) := hx0
                replace hy0 : (w6.drewN nq).cell? (ad.add ((i + 1) * 3)) = some (.int .i64 y.f0) := hy0
                clear hz1 hz1f
                generalize w6.drewN nq = w7 at *
                have ez := HEZ.out
                obtain ⟨ce, hcl, hM, hcc, hfr⟩ := Kd.R_elem HO7.out z23 (o.length : Int) (by omega) (by omega)
                obtain rfl := k23_openM hM
                have ezz : out.getD (o.length : Int).toNat z23 = z := by rw [ez]; simp [List.getD]
                have hz1 : w7.cell? ⟨go, o.length * 2 + 1, none⟩ = some (.int .i64 z.f1) := by have h := hcc 1 _ rfl; rw [← ezz]; exact h
                have hz1f : w7.frozen? ⟨go, o.length * 2 + 1, none⟩ = false := hfr 1
                clear hcl hcc hfr hM ezz
                skip
                have HSEG := Lib.hid (seg_row (y := y.f0) HO7.out ez)
                clear ez
                have HI8 := Lib.hid (HI7.out.far (p := ⟨go, o.length * 2 + 1, none⟩) (fun e => HI7.out.own_ne HO7.out (by decide) (congrArg some e)) (.int .i64 y.f0))
                have HB8 := Lib.hid (below_set (j := o.length * 2 + 1) (v := .int .i64 y.f0) HB7.out (Kd.R_base HO7.out go rfl))
                have HO8 := Lib.hid HSEG.out.1
                clear HI7 HO7 HB7 HSEG
                go_wp2_with fail
                go_roundw
                case rel => exact ⟨i + 1, a5, b, o ++ [⟨z.f0, y.f0⟩], by go_num, by omega, .inl hlt, by have := HLO.out; simp; omega, HAB5, HI8, HO8, HB8, Lib.hid (by rw [← HQ2.out, HEZ.out, pushP_snoc, if_pos hzx])⟩
                case measure => simp [intOf]; omega
              · have hzx1 : (z.f1 == x.f0) = false := beq_eq_false_iff_ne.mpr hzx
                clear ez
                go_wp2_with fail
                go_quiet (fail)
                go_wp2_with fail
                have HI7 := Lib.hid (HI6.out.drewN nq)
                have HO7 := Lib.hid (Kd.R_drewN HO6.out nq)
                have HB7 := Lib.hid (pw_below_drewN HB6.out nq)
                replace hx0 : (w6.drewN nq).cell? (ad.add (i * 3)) = some (.int .i64 x.f0) := hx0
                replace hy0 : (w6.drewN nq).cell? (ad.add ((i + 1) * 3)) = some (.int .i64 y.f0) := hy0
                clear hz1 hz1f
                generalize w6.drewN nq = w7 at *
                have hin : i < n := by omega
                have h0i : 0 ≤ (i : Int) + 1 := by omega
                have h1i : (i : Int) + 1 < (n : Int) := by omega
                have hti : ((i : Int) + 1).toNat = i + 1 := by omega
                have hwi : wrap64 ((i : Int) + 1) = (i : Int) + 1 := wp64 (by omega) (by omega)
                refine start_ (n := 16) (S := fun w' => w'.cell? (ad.add (i * 3)) = some (.int .i64 x.f0) ∧ w'.cell? (ad.add ((i + 1) * 3)) = some (.int .i64 y.f0)) (ds := [14]) #[false, false, false, false, false, false, false, false, false, false, false, false, false, false, false, false] (by kernel_rfl) rfl rfl ⟨hx0, hy0⟩ (fun hHeld => ?_)
                have HI8 := Lib.hid HI7.out.drew
                have HO8 := Lib.hid (Kd.R_drew HO7.out)
                have HB8 := Lib.hid (below_drew1 HB7.out)
                refine pz_ (i := 0) (N := some 98) #[true, false, false, false, false, false, false, false, false, false, false, false, false, false, false, false] (by kernel_rfl) ?_
                refine pz_ (i := 1) (N := some 99) #[true, true, false, false, false, false, false, false, false, false, false, false, false, false, false, false] (by kernel_rfl) ?_
                refine pz_ (i := 2) (N := some 100) #[true, true, true, false, false, false, false, false, false, false, false, false, false, false, false, false] (by kernel_rfl) ?_
                refine pz_ (i := 3) (N := some 101) #[true, true, true, true, false, false, false, false, false, false, false, false, false, false, false, false] (by kernel_rfl) ?_
                refine pz_ (i := 4) (N := some 102) #[true, true, true, true, true, false, false, false, false, false, false, false, false, false, false, false] (by kernel_rfl) ?_
                refine tz_ (i := 5) (N := some 103) #[true, true, true, true, true, true, false, false, false, false, false, false, false, false, false, false] (by kernel_rfl) hHeld ?_
                refine pz_ (i := 6) (N := some 104) #[true, true, true, true, true, true, true, false, false, false, false, false, false, false, false, false] (by kernel_rfl) ?_
                refine pz_ (i := 7) (N := some 105) #[true, true, true, true, true, true, true, true, false, false, false, false, false, false, false, false] (by kernel_rfl) ?_
                refine pz_ (i := 8) (N := some 106) #[true, true, true, true, true, true, true, true, true, false, false, false, false, false, false, false] (by kernel_rfl) ?_
                refine pz_ (i := 9) (N := some 107) #[true, true, true, true, true, true, true, true, true, true, false, false, false, false, false, false] (by kernel_rfl) ?_
                refine pz_ (i := 10) (N := some 108) #[true, true, true, true, true, true, true, true, true, true, true, false, false, false, false, false] (by kernel_rfl) ?_
                refine tz_ (i := 11) (N := some 109) #[true, true, true, true, true, true, true, true, true, true, true, true, false, false, false, false] (by kernel_rfl) hHeld ?_
                refine pz_ (i := 12) (N := some 110) #[true, true, true, true, true, true, true, true, true, true, true, true, true, false, false, false] (by kernel_rfl) ?_
                clear hwi hti h0i h1i
                refine one_ (i := 13) (N := some 111) #[true, true, true, true, true, true, true, true, true, true, true, true, true, true, false, false] rfl rfl (by kernel_rfl) (by decide) (fun K hK => ?_)
                refine Kd.R_lit_step k23 (w0 := w3) w3.heap.size 23 ?hg (N := 111) ?hd (xs := ([(⟨x.f0, y.f0⟩ : S23)] : List S23)) (inner := [.int .i64 x.f0, .int .i64 y.f0]) (ok := fun _ => True) (okp := fun _ => True) ?hr ?hp (fun _ hk => hk) trivial HB8.out HB8.out.size (by simp) ?_; (case hd => rfl); (case hg => rfl); (case hr => first | (go_simp; done) | (go_simp; rfl)); (case hp => exact (Reps.c2 (show Kd.M k23 _ _ _ (⟨x.f0, y.f0⟩ : S23) [.int .i64 x.f0, .int .i64 y.f0] from (k23_mkM _ _ _ (⟨x.f0, y.f0⟩ : S23))) (Reps.none _ _)))
                intro v9 w9 hr9 hb9 hg9 hnew9
                have HS0 := (Kd.C_below HC.out hb9)
                have hS : w9.cell? (ad.add (i * 3)) = some (.int .i64 x.f0) ∧ w9.cell? (ad.add ((i + 1) * 3)) = some (.int .i64 y.f0) := ⟨cell_grown hg9 hHeld.1 (by simp), cell_grown hg9 hHeld.2 (by simp)⟩
                have HL := Lib.hid hr9
                have HB9 := Lib.hid hb9
                have HI9 := Lib.hid (HI8.out.grown hg9 (by simp))
                have HO9 := Lib.hid (row_apart HO8.out hg9 hnew9)
                clear hr9 hb9 hg9 hnew9 HS0 HI8 HO8 HB8
                obtain ⟨Al, cl, el⟩ := Kd.R_slice HL.out
                subst el
                refine hK.out _ _ hS (fun hHeld => ?_)
                clear hK K
                refine norm_ (a' := ?_) ?_ ?_
                rotate_left
                · show Act.put _ (some 111) _ = _
                  simp only [Act.put, List.setIfInBounds_toArray, List.set_cons_zero, List.set_cons_succ, i64_w, i32_w]
                  rfl
                refine last_ (i := 14) (N := some 112) #[true, true, true, true, true, true, true, true, true, true, true, true, true, true, true, false] rfl rfl (by kernel_rfl) (by decide) (fun K hK => ?_)
                refine Kd.R_append_rows_step k23 (w0 := w3) w3.heap.size (by rfl) (.tmp 98) (.tmp 111) 29 23 (.agg #[(.int .i64 0), (.int .i64 0)]) 16 rfl Try.underlying29 info23 rfl (by decide) (by omega) (.slice (some ⟨go, 0, none⟩) out.length co) out [(⟨x.f0, y.f0⟩ : S23)] Al _ _ (fun k => (True ∧ some k ≠ (Value.slice Al ([(⟨x.f0, y.f0⟩ : S23)] : List S23).length cl).ownBlock) ∧ k ≠ w3.heap.size) (fun _ => False) rfl rfl ?aO ?aR (fun _ _ h => h) (fun _ h => h.elim) ?aF ?aB ?aS ?aL ?_
                (case aR => exact (Kd.R_reads' HL.out).2.2)
                (case aB => exact HB9.out)
                (case aF => exact fun k hk => ⟨⟨trivial, Kd.fresh' (Kd.R_lt HL.out) k hk⟩, by have := HI9.out.lt; omega⟩)
                (case aO => exact HI9.out.apart HO9.out (by decide))
                (case aS => exact HB9.out.size)
                (case aL => simp; omega)
                intro v10 w10 hr10 hb10 hg10 hat10
                have HO10 := Lib.hid (Kd.R_mono (ok' := fun _ => True) hr10 (fun _ _ => trivial))
                have HB10 := Lib.hid hb10
                have HI10 := Lib.hid (HI9.out.grown hg10 (HI9.out.own_ne HO9.out (by decide)))
                clear hr10 hb10 hg10 hat10 HI9 HO9 HB9 HL
                refine hK.out _ _ ?_
                clear hK K
                refine norm_ (a' := ?_) ?_ ?_
                rotate_left
                · show Act.put _ (some 112) _ = _
                  simp only [Act.put, List.setIfInBounds_toArray, List.set_cons_zero, List.set_cons_succ, i64_w, i32_w]
                  rfl
                refine pz_ (i := 15) (N := some 9) #[true, true, true, true, true, true, true, true, true, true, true, true, true, true, true, true] (by kernel_rfl) ?_
                refine done_ (by kernel_rfl) ?_
                try go_wp2
                go_roundw
                case rel => exact ⟨i + 1, a5, b, out ++ [⟨x.f0, y.f0⟩], by go_num, by omega, .inl hlt, by simp; omega, HAB5, HI10, HO10, HB10, Lib.hid (by rw [← HQ2.out, HEZ.out, pushP_snoc, if_neg hzx])⟩
                case measure => simp [intOf]; omega
            · have hk0 : decide ((out.length : Int) > 0) = false := decide_eq_false (by omega)
              have hoe : out = [] := List.eq_nil_of_length_eq_zero (by omega)
              have HOE := Lib.hid hoe
              clear hoe
              go_wp2_with fail
              go_quiet (fail)
              go_wp2_with fail
              have HI7 := Lib.hid (HI6.out.drewN nq)
              have HO7 := Lib.hid (Kd.R_drewN HO6.out nq)
              have HB7 := Lib.hid (pw_below_drewN HB6.out nq)
              replace hx0 : (w6.drewN nq).cell? (ad.add (i * 3)) = some (.int .i64 x.f0) := hx0
              replace hy0 : (w6.drewN nq).cell? (ad.add ((i + 1) * 3)) = some (.int .i64 y.f0) := hy0
              generalize w6.drewN nq = w7 at *
              have hin : i < n := by omega
              have h0i : 0 ≤ (i : Int) + 1 := by omega
              have h1i : (i : Int) + 1 < (n : Int) := by omega
              have hti : ((i : Int) + 1).toNat = i + 1 := by omega
              have hwi : wrap64 ((i : Int) + 1) = (i : Int) + 1 := wp64 (by omega) (by omega)
              refine start_ (n := 16) (S := fun w' => w'.cell? (ad.add (i * 3)) = some (.int .i64 x.f0) ∧ w'.cell? (ad.add ((i + 1) * 3)) = some (.int .i64 y.f0)) (ds := [14]) #[false, false, false, false, false, false, false, false, false, false, false, false, false, false, false, false] (by kernel_rfl) rfl rfl ⟨hx0, hy0⟩ (fun hHeld => ?_)
              have HI8 := Lib.hid HI7.out.drew
              have HO8 := Lib.hid (Kd.R_drew HO7.out)
              have HB8 := Lib.hid (below_drew1 HB7.out)
              refine pz_ (i := 0) (N := some 98) #[true, false, false, false, false, false, false, false, false, false, false, false, false, false, false, false] (by kernel_rfl) ?_
              refine pz_ (i := 1) (N := some 99) #[true, true, false, false, false, false, false, false, false, false, false, false, false, false, false, false] (by kernel_rfl) ?_
              refine pz_ (i := 2) (N := some 100) #[true, true, true, false, false, false, false, false, false, false, false, false, false, false, false, false] (by kernel_rfl) ?_
              refine pz_ (i := 3) (N := some 101) #[true, true, true, true, false, false, false, false, false, false, false, false, false, false, false, false] (by kernel_rfl) ?_
              refine pz_ (i := 4) (N := some 102) #[true, true, true, true, true, false, false, false, false, false, false, false, false, false, false, false] (by kernel_rfl) ?_
              refine tz_ (i := 5) (N := some 103) #[true, true, true, true, true, true, false, false, false, false, false, false, false, false, false, false] (by kernel_rfl) hHeld ?_
              refine pz_ (i := 6) (N := some 104) #[true, true, true, true, true, true, true, false, false, false, false, false, false, false, false, false] (by kernel_rfl) ?_
              refine pz_ (i := 7) (N := some 105) #[true, true, true, true, true, true, true, true, false, false, false, false, false, false, false, false] (by kernel_rfl) ?_
              refine pz_ (i := 8) (N := some 106) #[true, true, true, true, true, true, true, true, true, false, false, false, false, false, false, false] (by kernel_rfl) ?_
              refine pz_ (i := 9) (N := some 107) #[true, true, true, true, true, true, true, true, true, true, false, false, false, false, false, false] (by kernel_rfl) ?_
              refine pz_ (i := 10) (N := some 108) #[true, true, true, true, true, true, true, true, true, true, true, false, false, false, false, false] (by kernel_rfl) ?_
              refine tz_ (i := 11) (N := some 109) #[true, true, true, true, true, true, true, true, true, true, true, true, false, false, false, false] (by kernel_rfl) hHeld ?_
              refine pz_ (i := 12) (N := some 110) #[true, true, true, true, true, true, true, true, true, true, true, true, true, false, false, false] (by kernel_rfl) ?_
              clear hwi hti h0i h1i
              refine one_ (i := 13) (N := some 111) #[true, true, true, true, true, true, true, true, true, true, true, true, true, true, false, false] rfl rfl (by kernel_rfl) (by decide) (fun K hK => ?_)
              refine Kd.R_lit_step k23 (w0 := w3) w3.heap.size 23 ?hg (N := 111) ?hd (xs := ([(⟨x.f0, y.f0⟩ : S23)] : List S23)) (inner := [.int .i64 x.f0, .int .i64 y.f0]) (ok := fun _ => True) (okp := fun _ => True) ?hr ?hp (fun _ hk => hk) trivial HB8.out HB8.out.size (by simp) ?_; (case hd => rfl); (case hg => rfl); (case hr => first | (go_simp; done) | (go_simp; rfl)); (case hp => exact (Reps.c2 (show Kd.M k23 _ _ _ (⟨x.f0, y.f0⟩ : S23) [.int .i64 x.f0, .int .i64 y.f0] from (k23_mkM _ _ _ (⟨x.f0, y.f0⟩ : S23))) (Reps.none _ _)))
              intro v9 w9 hr9 hb9 hg9 hnew9
              have HS0 := (Kd.C_below HC.out hb9)
              have hS : w9.cell? (ad.add (i * 3)) = some (.int .i64 x.f0) ∧ w9.cell? (ad.add ((i + 1) * 3)) = some (.int .i64 y.f0) := ⟨cell_grown hg9 hHeld.1 (by simp), cell_grown hg9 hHeld.2 (by simp)⟩
              have HL := Lib.hid hr9
              have HB9 := Lib.hid hb9
              have HI9 := Lib.hid (HI8.out.grown hg9 (by simp))
              have HO9 := Lib.hid (row_apart HO8.out hg9 hnew9)
              clear hr9 hb9 hg9 hnew9 HS0 HI8 HO8 HB8
              obtain ⟨Al, cl, el⟩ := Kd.R_slice HL.out
              subst el
              refine hK.out _ _ hS (fun hHeld => ?_)
              clear hK K
              refine norm_ (a' := ?_) ?_ ?_
              rotate_left
              · show Act.put _ (some 111) _ = _
                simp only [Act.put, List.setIfInBounds_toArray, List.set_cons_zero, List.set_cons_succ, i64_w, i32_w]
                rfl
              refine last_ (i := 14) (N := some 112) #[true, true, true, true, true, true, true, true, true, true, true, true, true, true, true, false] rfl rfl (by kernel_rfl) (by decide) (fun K hK => ?_)
              refine Kd.R_append_rows_step k23 (w0 := w3) w3.heap.size (by rfl) (.tmp 98) (.tmp 111) 29 23 (.agg #[(.int .i64 0), (.int .i64 0)]) 16 rfl Try.underlying29 info23 rfl (by decide) (by omega) (.slice Ao out.length co) out [(⟨x.f0, y.f0⟩ : S23)] Al _ _ (fun k => (True ∧ some k ≠ (Value.slice Al ([(⟨x.f0, y.f0⟩ : S23)] : List S23).length cl).ownBlock) ∧ k ≠ w3.heap.size) (fun _ => False) rfl rfl ?aO ?aR (fun _ _ h => h) (fun _ h => h.elim) ?aF ?aB ?aS ?aL ?_
              (case aR => exact (Kd.R_reads' HL.out).2.2)
              (case aB => exact HB9.out)
              (case aF => exact fun k hk => ⟨⟨trivial, Kd.fresh' (Kd.R_lt HL.out) k hk⟩, by have := HI9.out.lt; omega⟩)
              (case aO => exact HI9.out.apart HO9.out (by decide))
              (case aS => exact HB9.out.size)
              (case aL => simp; omega)
              intro v10 w10 hr10 hb10 hg10 hat10
              have HO10 := Lib.hid (Kd.R_mono (ok' := fun _ => True) hr10 (fun _ _ => trivial))
              have HB10 := Lib.hid hb10
              have HI10 := Lib.hid (HI9.out.grown hg10 (HI9.out.own_ne HO9.out (by decide)))
              clear hr10 hb10 hg10 hat10 HI9 HO9 HB9 HL
              refine hK.out _ _ ?_
              clear hK K
              refine norm_ (a' := ?_) ?_ ?_
              rotate_left
              · show Act.put _ (some 112) _ = _
                simp only [Act.put, List.setIfInBounds_toArray, List.set_cons_zero, List.set_cons_succ, i64_w, i32_w]
                rfl
              refine pz_ (i := 15) (N := some 9) #[true, true, true, true, true, true, true, true, true, true, true, true, true, true, true, true] (by kernel_rfl) ?_
              refine done_ (by kernel_rfl) ?_
              try go_wp2
              go_roundw
              case rel => exact ⟨i + 1, a5, b, out ++ [⟨x.f0, y.f0⟩], by go_num, by omega, .inl hlt, by simp; omega, HAB5, HI10, HO10, HB10, Lib.hid (by rw [← HQ2.out, HOE.out]; rfl)⟩
              case measure => simp [intOf]; omega
          · have HPq := Lib.hid (show pW true a5 b = false by simp [pW, hb0])
            go_wp2_with fail
            go_quiet (fail)
            go_wp2_with fail
            have HI6 := Lib.hid (HI5.out.drewN nq)
            have HO6 := Lib.hid (Kd.R_drewN HO5.out nq)
            have HB6 := Lib.hid (pw_below_drewN HB5.out nq)
            go_roundw
            case rel => exact ⟨i + 1, a5, b, out, by go_num, by omega, .inl hlt, by omega, HAB5, HI6, HO6, HB6, Lib.hid (by rw [← HQ.out, if_pos (by simp [HPq.out])])⟩
            case measure => simp [intOf]; omega
      · rw [hl] at hx2
        go_wp2_with fail
        go_region
        have hw5 : wrap64 (b + x.f1) = b + x.f1 := wp64 (by have := HAB.out; have := HGX.out; omega) (by have := HAB.out; have := HGX.out; omega)
        rw [hw5]
        have HI5 := Lib.hid (HI.out.set_1 (b + x.f1))
        replace HI5 := Lib.hid HI5.out.drew
        have HO5 := Lib.hid (Kd.R_mono (ok' := fun _ => True) (Kd.R_drew (Kd.R_far (HI.out.apart HO.out (by decide)) (p := ⟨w3.heap.size, 1, none⟩) (fun k hk => hk.2) (.int .i64 (b + x.f1)))) (fun _ _ => trivial))
        have HB5 := Lib.hid (below_drew1 (below_set (j := 1) (v := .int .i64 (b + x.f1)) HB.out (Nat.le_refl _)))
        generalize (wr.setCell ⟨w3.heap.size, 1, none⟩ (.int .i64 (b + x.f1))).drew = w5 at *
        have HAB5 := Lib.hid (show -((i + 1 : Nat) : Int) ≤ a ∧ a ≤ ((i + 1 : Nat) : Int) ∧ -((i + 1 : Nat) : Int) ≤ (b + x.f1) ∧ (b + x.f1) ≤ ((i + 1 : Nat) : Int) by have := HAB.out; have := HGX.out; omega)
        have hE1 : (r.map toEnd).drop i = toEnd x :: (r.map toEnd).drop (i + 1) := by rw [← List.map_drop, HD.out, List.map_cons, List.map_drop]
        have hE2 : (r.map toEnd).drop (i + 1) = toEnd y :: (r.map toEnd).drop (i + 1 + 1) := by rw [← List.map_drop, HD2.out, List.map_cons, List.map_drop]
        have HQ := Lib.hid (show pc (pW wi) ((r.map toEnd).drop (i + 1)) a (b + x.f1) (if (decide (x.f0 = y.f0) || !pW wi a (b + x.f1)) = true then out else pushP out x.f0 y.f0) = pc (pW wi) (r.map toEnd) 0 0 [] by
          rw [← HE.out, hE1, hE2, pc_step, HX.out.1, HX.out.2, if_neg (show ¬ x.f2 = 0 by rw [hl]; decide), if_neg (show ¬ x.f2 = 0 by rw [hl]; decide)]; simp only [Int.add_zero]; rfl)
        clear HI HO HB HAB HX HGX HD HD2 HE hx0 hx1 hx2 hy0 hy1 hy2 hN0 hN1 hF0 hF1 hw5 hE1 hE2
        generalize b + x.f1 = b5 at *
        obtain ⟨ad2, ha2, hx0, hx1, hx2⟩ := at_T65 (Kd.C_below HC.out HB5.out) (i : Int) (by omega) (by omega)
        cases ha2
        obtain ⟨ad3, ha3, hy0, hy1, hy2⟩ := at_T65 (Kd.C_below HC.out HB5.out) ((i + 1 : Nat) : Int) (by omega) (by omega)
        cases ha3
        simp only [Int.toNat_natCast, hxx, hyy] at hx0 hx1 hx2 hy0 hy1 hy2
        have hN0 := cellN63_0 HI5.out.1
        have hN1 := cellN63_1 HI5.out.1
        by_cases heq : x.f0 = y.f0
        · have hq0 : (x.f0 == y.f0) = true := beq_iff_eq.mpr heq
          go_wp2_with fail
          go_quiet (fail)
          go_wp2_with fail
          have HI6 := Lib.hid (HI5.out.drewN nq)
          have HO6 := Lib.hid (Kd.R_drewN HO5.out nq)
          have HB6 := Lib.hid (pw_below_drewN HB5.out nq)
          go_roundw
          case rel => exact ⟨i + 1, a, b5, out, by go_num, by omega, .inl hlt, by omega, HAB5, HI6, HO6, HB6, Lib.hid (by rw [← HQ.out, if_pos (by simp [heq])])⟩
          case measure => simp [intOf]; omega
        have hq0 : (x.f0 == y.f0) = false := beq_eq_false_iff_ne.mpr heq
        by_cases ha0 : a ≤ 0
        · have hq1 : decide (a ≤ 0) = true := decide_eq_true ha0
          go_wp2_with fail
          go_quiet (fail)
          go_wp2_with fail
          have HI6 := Lib.hid (HI5.out.drewN nq)
          have HO6 := Lib.hid (Kd.R_drewN HO5.out nq)
          have HB6 := Lib.hid (pw_below_drewN HB5.out nq)
          go_roundw
          case rel => exact ⟨i + 1, a, b5, out, by go_num, by omega, .inl hlt, by omega, HAB5, HI6, HO6, HB6, Lib.hid (by rw [← HQ.out, if_pos (by simp [pW]; omega)])⟩
          case measure => simp [intOf]; omega
        have hq1 : decide (a ≤ 0) = false := decide_eq_false ha0
        by_cases hb0 : b5 > 0
        · have hq2 : decide (b5 > 0) = true := decide_eq_true hb0
          cases wi
          · have HPq := Lib.hid (show pW false a b5 = false by simp [pW, hb0])
            go_wp2_with fail
            go_quiet (fail)
            go_wp2_with fail
            have HI6 := Lib.hid (HI5.out.drewN nq)
            have HO6 := Lib.hid (Kd.R_drewN HO5.out nq)
            have HB6 := Lib.hid (pw_below_drewN HB5.out nq)
            go_roundw
            case rel => exact ⟨i + 1, a, b5, out, by go_num, by omega, .inl hlt, by omega, HAB5, HI6, HO6, HB6, Lib.hid (by rw [← HQ.out, if_pos (by simp [HPq.out])])⟩
            case measure => simp [intOf]; omega
          · have HPq := Lib.hid (show pW true a b5 = true by simp [pW, hb0]; omega)
            go_wp2_with fail
            go_quiet (fail)
            have HI6 := Lib.hid (HI5.out.drewN nq)
            have HO6 := Lib.hid (Kd.R_drewN HO5.out nq)
            have HB6 := Lib.hid (pw_below_drewN HB5.out nq)
            generalize w5.drewN nq = w6 at *
            clear HI5 HO5 HB5 hx0 hx1 hx2 hy0 hy1 hy2 hN0 hN1
            have HQ2 := Lib.hid (show pc (pW _) ((r.map toEnd).drop (i + 1)) a b5 (pushP out x.f0 y.f0) = pc (pW _) (r.map toEnd) 0 0 [] by rw [← HQ.out, if_neg (by simp [heq, HPq.out])])
            obtain ⟨ad2, ha2, hx0, hx1, hx2⟩ := at_T65 (Kd.C_below HC.out HB6.out) (i : Int) (by omega) (by omega)
            cases ha2
            obtain ⟨ad3, ha3, hy0, hy1, hy2⟩ := at_T65 (Kd.C_below HC.out HB6.out) ((i + 1 : Nat) : Int) (by omega) (by omega)
            cases ha3
            simp only [Int.toNat_natCast, hxx, hyy] at hx0 hx1 hx2 hy0 hy1 hy2
            obtain ⟨Ao, co, es⟩ := Kd.R_slice HO6.out
            subst es
            by_cases hz : 0 < out.length
            · have hk0 : decide ((out.length : Int) > 0) = true := decide_eq_true (by omega)
              obtain ⟨o, z, ez⟩ := snoc_of hz
              have hlo : out.length = o.length + 1 := by rw [ez]; simp
              obtain ⟨go, cg, eo, hgb, hgl, gcells, HGg⟩ := Kd.R_form HO6.out hz
              cases eo
              obtain ⟨ce, hcl, hM, hcc, hfr⟩ := Kd.R_elem HO6.out z23 (o.length : Int) (by omega) (by omega)
              obtain rfl := k23_openM hM
              have ezz : out.getD (o.length : Int).toNat z23 = z := by rw [ez]; simp [List.getD]
              have hz1 : w6.cell? ⟨go, o.length * 2 + 1, none⟩ = some (.int .i64 z.f1) := by have h := hcc 1 _ rfl; rw [← ezz]; exact h
              have hz1f : w6.frozen? ⟨go, o.length * 2 + 1, none⟩ = false := hfr 1
              clear hcl hcc hfr hM ezz
              have hidx : (out.length : Int) - 1 = (o.length : Int) := by omega
              have hidx2 : (o.length : Int) < (out.length : Int) := by omega
              have HEZ := Lib.hid ez
              have HLO := Lib.hid hlo
              clear hlo HGg
              by_cases hzx : z.f1 = x.f0
              · have hzx1 : (z.f1 == x.f0) = true := beq_iff_eq.mpr hzx
                clear ez
                go_wp2_with fail
                go_quiet (fail)
                have HI7 := Lib.hid (HI6.out.drewN nq)
                have HO7 := Lib.hid (Kd.R_drewN HO6.out nq)
                have HB7 := Lib.hid (pw_below_drewN HB6.out nq)
                replace hx0 : (w6.drewN nq).cell? (ad.add (i * 3)) = some (.int .i64 x.f0) := hx0
                replace hy0 : (w6.drewN nq).cell? (ad.add ((i + 1) * 3)) = some (.int .i64 y.f0) := hy0
                clear hz1 hz1f
                generalize w6.drewN nq = w7 at *
                have ez := HEZ.out
                obtain ⟨ce, hcl, hM, hcc, hfr⟩ := Kd.R_elem HO7.out z23 (o.length : Int) (by omega) (by omega)
                obtain rfl := k23_openM hM
                have ezz : out.getD (o.length : Int).toNat z23 = z := by rw [ez]; simp [List.getD]
                have hz1 : w7.cell? ⟨go, o.length * 2 + 1, none⟩ = some (.int .i64 z.f1) := by have h := hcc 1 _ rfl; rw [← ezz]; exact h
                have hz1f : w7.frozen? ⟨go, o.length * 2 + 1, none⟩ = false := hfr 1
                clear hcl hcc hfr hM ezz
                skip
                have HSEG := Lib.hid (seg_row (y := y.f0) HO7.out ez)
                clear ez
                have HI8 := Lib.hid (HI7.out.far (p := ⟨go, o.length * 2 + 1, none⟩) (fun e => HI7.out.own_ne HO7.out (by decide) (congrArg some e)) (.int .i64 y.f0))
                have HB8 := Lib.hid (below_set (j := o.length * 2 + 1) (v := .int .i64 y.f0) HB7.out (Kd.R_base HO7.out go rfl))
                have HO8 := Lib.hid HSEG.out.1
                clear HI7 HO7 HB7 HSEG
                go_wp2_with fail
                go_roundw
                case rel => exact ⟨i + 1, a, b5, o ++ [⟨z.f0, y.f0⟩], by go_num, by omega, .inl hlt, by have := HLO.out; simp; omega, HAB5, HI8, HO8, HB8, Lib.hid (by rw [← HQ2.out, HEZ.out, pushP_snoc, if_pos hzx])⟩
                case measure => simp [intOf]; omega
              · have hzx1 : (z.f1 == x.f0) = false := beq_eq_false_iff_ne.mpr hzx
                clear ez
                go_wp2_with fail
                go_quiet (fail)
                go_wp2_with fail
                have HI7 := Lib.hid (HI6.out.drewN nq)
                have HO7 := Lib.hid (Kd.R_drewN HO6.out nq)
                have HB7 := Lib.hid (pw_below_drewN HB6.out nq)
                replace hx0 : (w6.drewN nq).cell? (ad.add (i * 3)) = some (.int .i64 x.f0) := hx0
                replace hy0 : (w6.drewN nq).cell? (ad.add ((i + 1) * 3)) = some (.int .i64 y.f0) := hy0
                clear hz1 hz1f
                generalize w6.drewN nq = w7 at *
                have hin : i < n := by omega
                have h0i : 0 ≤ (i : Int) + 1 := by omega
                have h1i : (i : Int) + 1 < (n : Int) := by omega
                have hti : ((i : Int) + 1).toNat = i + 1 := by omega
                have hwi : wrap64 ((i : Int) + 1) = (i : Int) + 1 := wp64 (by omega) (by omega)
                refine start_ (n := 16) (S := fun w' => w'.cell? (ad.add (i * 3)) = some (.int .i64 x.f0) ∧ w'.cell? (ad.add ((i + 1) * 3)) = some (.int .i64 y.f0)) (ds := [14]) #[false, false, false, false, false, false, false, false, false, false, false, false, false, false, false, false] (by kernel_rfl) rfl rfl ⟨hx0, hy0⟩ (fun hHeld => ?_)
                have HI8 := Lib.hid HI7.out.drew
                have HO8 := Lib.hid (Kd.R_drew HO7.out)
                have HB8 := Lib.hid (below_drew1 HB7.out)
                refine pz_ (i := 0) (N := some 98) #[true, false, false, false, false, false, false, false, false, false, false, false, false, false, false, false] (by kernel_rfl) ?_
                refine pz_ (i := 1) (N := some 99) #[true, true, false, false, false, false, false, false, false, false, false, false, false, false, false, false] (by kernel_rfl) ?_
                refine pz_ (i := 2) (N := some 100) #[true, true, true, false, false, false, false, false, false, false, false, false, false, false, false, false] (by kernel_rfl) ?_
                refine pz_ (i := 3) (N := some 101) #[true, true, true, true, false, false, false, false, false, false, false, false, false, false, false, false] (by kernel_rfl) ?_
                refine pz_ (i := 4) (N := some 102) #[true, true, true, true, true, false, false, false, false, false, false, false, false, false, false, false] (by kernel_rfl) ?_
                refine tz_ (i := 5) (N := some 103) #[true, true, true, true, true, true, false, false, false, false, false, false, false, false, false, false] (by kernel_rfl) hHeld ?_
                refine pz_ (i := 6) (N := some 104) #[true, true, true, true, true, true, true, false, false, false, false, false, false, false, false, false] (by kernel_rfl) ?_
                refine pz_ (i := 7) (N := some 105) #[true, true, true, true, true, true, true, true, false, false, false, false, false, false, false, false] (by kernel_rfl) ?_
                refine pz_ (i := 8) (N := some 106) #[true, true, true, true, true, true, true, true, true, false, false, false, false, false, false, false] (by kernel_rfl) ?_
                refine pz_ (i := 9) (N := some 107) #[true, true, true, true, true, true, true, true, true, true, false, false, false, false, false, false] (by kernel_rfl) ?_
                refine pz_ (i := 10) (N := some 108) #[true, true, true, true, true, true, true, true, true, true, true, false, false, false, false, false] (by kernel_rfl) ?_
                refine tz_ (i := 11) (N := some 109) #[true, true, true, true, true, true, true, true, true, true, true, true, false, false, false, false] (by kernel_rfl) hHeld ?_
                refine pz_ (i := 12) (N := some 110) #[true, true, true, true, true, true, true, true, true, true, true, true, true, false, false, false] (by kernel_rfl) ?_
                clear hwi hti h0i h1i
                refine one_ (i := 13) (N := some 111) #[true, true, true, true, true, true, true, true, true, true, true, true, true, true, false, false] rfl rfl (by kernel_rfl) (by decide) (fun K hK => ?_)
                refine Kd.R_lit_step k23 (w0 := w3) w3.heap.size 23 ?hg (N := 111) ?hd (xs := ([(⟨x.f0, y.f0⟩ : S23)] : List S23)) (inner := [.int .i64 x.f0, .int .i64 y.f0]) (ok := fun _ => True) (okp := fun _ => True) ?hr ?hp (fun _ hk => hk) trivial HB8.out HB8.out.size (by simp) ?_; (case hd => rfl); (case hg => rfl); (case hr => first | (go_simp; done) | (go_simp; rfl)); (case hp => exact (Reps.c2 (show Kd.M k23 _ _ _ (⟨x.f0, y.f0⟩ : S23) [.int .i64 x.f0, .int .i64 y.f0] from (k23_mkM _ _ _ (⟨x.f0, y.f0⟩ : S23))) (Reps.none _ _)))
                intro v9 w9 hr9 hb9 hg9 hnew9
                have HS0 := (Kd.C_below HC.out hb9)
                have hS : w9.cell? (ad.add (i * 3)) = some (.int .i64 x.f0) ∧ w9.cell? (ad.add ((i + 1) * 3)) = some (.int .i64 y.f0) := ⟨cell_grown hg9 hHeld.1 (by simp), cell_grown hg9 hHeld.2 (by simp)⟩
                have HL := Lib.hid hr9
                have HB9 := Lib.hid hb9
                have HI9 := Lib.hid (HI8.out.grown hg9 (by simp))
                have HO9 := Lib.hid (row_apart HO8.out hg9 hnew9)
                clear hr9 hb9 hg9 hnew9 HS0 HI8 HO8 HB8
                obtain ⟨Al, cl, el⟩ := Kd.R_slice HL.out
                subst el
                refine hK.out _ _ hS (fun hHeld => ?_)
                clear hK K
                refine norm_ (a' := ?_) ?_ ?_
                rotate_left
                · show Act.put _ (some 111) _ = _
                  simp only [Act.put, List.setIfInBounds_toArray, List.set_cons_zero, List.set_cons_succ, i64_w, i32_w]
                  rfl
                refine last_ (i := 14) (N := some 112) #[true, true, true, true, true, true, true, true, true, true, true, true, true, true, true, false] rfl rfl (by kernel_rfl) (by decide) (fun K hK => ?_)
                refine Kd.R_append_rows_step k23 (w0 := w3) w3.heap.size (by rfl) (.tmp 98) (.tmp 111) 29 23 (.agg #[(.int .i64 0), (.int .i64 0)]) 16 rfl Try.underlying29 info23 rfl (by decide) (by omega) (.slice (some ⟨go, 0, none⟩) out.length co) out [(⟨x.f0, y.f0⟩ : S23)] Al _ _ (fun k => (True ∧ some k ≠ (Value.slice Al ([(⟨x.f0, y.f0⟩ : S23)] : List S23).length cl).ownBlock) ∧ k ≠ w3.heap.size) (fun _ => False) rfl rfl ?aO ?aR (fun _ _ h => h) (fun _ h => h.elim) ?aF ?aB ?aS ?aL ?_
                (case aR => exact (Kd.R_reads' HL.out).2.2)
                (case aB => exact HB9.out)
                (case aF => exact fun k hk => ⟨⟨trivial, Kd.fresh' (Kd.R_lt HL.out) k hk⟩, by have := HI9.out.lt; omega⟩)
                (case aO => exact HI9.out.apart HO9.out (by decide))
                (case aS => exact HB9.out.size)
                (case aL => simp; omega)
                intro v10 w10 hr10 hb10 hg10 hat10
                have HO10 := Lib.hid (Kd.R_mono (ok' := fun _ => True) hr10 (fun _ _ => trivial))
                have HB10 := Lib.hid hb10
                have HI10 := Lib.hid (HI9.out.grown hg10 (HI9.out.own_ne HO9.out (by decide)))
                clear hr10 hb10 hg10 hat10 HI9 HO9 HB9 HL
                refine hK.out _ _ ?_
                clear hK K
                refine norm_ (a' := ?_) ?_ ?_
                rotate_left
                · show Act.put _ (some 112) _ = _
                  simp only [Act.put, List.setIfInBounds_toArray, List.set_cons_zero, List.set_cons_succ, i64_w, i32_w]
                  rfl
                refine pz_ (i := 15) (N := some 9) #[true, true, true, true, true, true, true, true, true, true, true, true, true, true, true, true] (by kernel_rfl) ?_
                refine done_ (by kernel_rfl) ?_
                try go_wp2
                go_roundw
                case rel => exact ⟨i + 1, a, b5, out ++ [⟨x.f0, y.f0⟩], by go_num, by omega, .inl hlt, by simp; omega, HAB5, HI10, HO10, HB10, Lib.hid (by rw [← HQ2.out, HEZ.out, pushP_snoc, if_neg hzx])⟩
                case measure => simp [intOf]; omega
            · have hk0 : decide ((out.length : Int) > 0) = false := decide_eq_false (by omega)
              have hoe : out = [] := List.eq_nil_of_length_eq_zero (by omega)
              have HOE := Lib.hid hoe
              clear hoe
              go_wp2_with fail
              go_quiet (fail)
              go_wp2_with fail
              have HI7 := Lib.hid (HI6.out.drewN nq)
              have HO7 := Lib.hid (Kd.R_drewN HO6.out nq)
              have HB7 := Lib.hid (pw_below_drewN HB6.out nq)
              replace hx0 : (w6.drewN nq).cell? (ad.add (i * 3)) = some (.int .i64 x.f0) := hx0
              replace hy0 : (w6.drewN nq).cell? (ad.add ((i + 1) * 3)) = some (.int .i64 y.f0) := hy0
              generalize w6.drewN nq = w7 at *
              have hin : i < n := by omega
              have h0i : 0 ≤ (i : Int) + 1 := by omega
              have h1i : (i : Int) + 1 < (n : Int) := by omega
              have hti : ((i : Int) + 1).toNat = i + 1 := by omega
              have hwi : wrap64 ((i : Int) + 1) = (i : Int) + 1 := wp64 (by omega) (by omega)
              refine start_ (n := 16) (S := fun w' => w'.cell? (ad.add (i * 3)) = some (.int .i64 x.f0) ∧ w'.cell? (ad.add ((i + 1) * 3)) = some (.int .i64 y.f0)) (ds := [14]) #[false, false, false, false, false, false, false, false, false, false, false, false, false, false, false, false] (by kernel_rfl) rfl rfl ⟨hx0, hy0⟩ (fun hHeld => ?_)
              have HI8 := Lib.hid HI7.out.drew
              have HO8 := Lib.hid (Kd.R_drew HO7.out)
              have HB8 := Lib.hid (below_drew1 HB7.out)
              refine pz_ (i := 0) (N := some 98) #[true, false, false, false, false, false, false, false, false, false, false, false, false, false, false, false] (by kernel_rfl) ?_
              refine pz_ (i := 1) (N := some 99) #[true, true, false, false, false, false, false, false, false, false, false, false, false, false, false, false] (by kernel_rfl) ?_
              refine pz_ (i := 2) (N := some 100) #[true, true, true, false, false, false, false, false, false, false, false, false, false, false, false, false] (by kernel_rfl) ?_
              refine pz_ (i := 3) (N := some 101) #[true, true, true, true, false, false, false, false, false, false, false, false, false, false, false, false] (by kernel_rfl) ?_
              refine pz_ (i := 4) (N := some 102) #[true, true, true, true, true, false, false, false, false, false, false, false, false, false, false, false] (by kernel_rfl) ?_
              refine tz_ (i := 5) (N := some 103) #[true, true, true, true, true, true, false, false, false, false, false, false, false, false, false, false] (by kernel_rfl) hHeld ?_
              refine pz_ (i := 6) (N := some 104) #[true, true, true, true, true, true, true, false, false, false, false, false, false, false, false, false] (by kernel_rfl) ?_
              refine pz_ (i := 7) (N := some 105) #[true, true, true, true, true, true, true, true, false, false, false, false, false, false, false, false] (by kernel_rfl) ?_
              refine pz_ (i := 8) (N := some 106) #[true, true, true, true, true, true, true, true, true, false, false, false, false, false, false, false] (by kernel_rfl) ?_
              refine pz_ (i := 9) (N := some 107) #[true, true, true, true, true, true, true, true, true, true, false, false, false, false, false, false] (by kernel_rfl) ?_
              refine pz_ (i := 10) (N := some 108) #[true, true, true, true, true, true, true, true, true, true, true, false, false, false, false, false] (by kernel_rfl) ?_
              refine tz_ (i := 11) (N := some 109) #[true, true, true, true, true, true, true, true, true, true, true, true, false, false, false, false] (by kernel_rfl) hHeld ?_
              refine pz_ (i := 12) (N := some 110) #[true, true, true, true, true, true, true, true, true, true, true, true, true, false, false, false] (by kernel_rfl) ?_
              clear hwi hti h0i h1i
              refine one_ (i := 13) (N := some 111) #[true, true, true, true, true, true, true, true, true, true, true, true, true, true, false, false] rfl rfl (by kernel_rfl) (by decide) (fun K hK => ?_)
              refine Kd.R_lit_step k23 (w0 := w3) w3.heap.size 23 ?hg (N := 111) ?hd (xs := ([(⟨x.f0, y.f0⟩ : S23)] : List S23)) (inner := [.int .i64 x.f0, .int .i64 y.f0]) (ok := fun _ => True) (okp := fun _ => True) ?hr ?hp (fun _ hk => hk) trivial HB8.out HB8.out.size (by simp) ?_; (case hd => rfl); (case hg => rfl); (case hr => first | (go_simp; done) | (go_simp; rfl)); (case hp => exact (Reps.c2 (show Kd.M k23 _ _ _ (⟨x.f0, y.f0⟩ : S23) [.int .i64 x.f0, .int .i64 y.f0] from (k23_mkM _ _ _ (⟨x.f0, y.f0⟩ : S23))) (Reps.none _ _)))
              intro v9 w9 hr9 hb9 hg9 hnew9
              have HS0 := (Kd.C_below HC.out hb9)
              have hS : w9.cell? (ad.add (i * 3)) = some (.int .i64 x.f0) ∧ w9.cell? (ad.add ((i + 1) * 3)) = some (.int .i64 y.f0) := ⟨cell_grown hg9 hHeld.1 (by simp), cell_grown hg9 hHeld.2 (by simp)⟩
              have HL := Lib.hid hr9
              have HB9 := Lib.hid hb9
              have HI9 := Lib.hid (HI8.out.grown hg9 (by simp))
              have HO9 := Lib.hid (row_apart HO8.out hg9 hnew9)
              clear hr9 hb9 hg9 hnew9 HS0 HI8 HO8 HB8
              obtain ⟨Al, cl, el⟩ := Kd.R_slice HL.out
              subst el
              refine hK.out _ _ hS (fun hHeld => ?_)
              clear hK K
              refine norm_ (a' := ?_) ?_ ?_
              rotate_left
              · show Act.put _ (some 111) _ = _
                simp only [Act.put, List.setIfInBounds_toArray, List.set_cons_zero, List.set_cons_succ, i64_w, i32_w]
                rfl
              refine last_ (i := 14) (N := some 112) #[true, true, true, true, true, true, true, true, true, true, true, true, true, true, true, false] rfl rfl (by kernel_rfl) (by decide) (fun K hK => ?_)
              refine Kd.R_append_rows_step k23 (w0 := w3) w3.heap.size (by rfl) (.tmp 98) (.tmp 111) 29 23 (.agg #[(.int .i64 0), (.int .i64 0)]) 16 rfl Try.underlying29 info23 rfl (by decide) (by omega) (.slice Ao out.length co) out [(⟨x.f0, y.f0⟩ : S23)] Al _ _ (fun k => (True ∧ some k ≠ (Value.slice Al ([(⟨x.f0, y.f0⟩ : S23)] : List S23).length cl).ownBlock) ∧ k ≠ w3.heap.size) (fun _ => False) rfl rfl ?aO ?aR (fun _ _ h => h) (fun _ h => h.elim) ?aF ?aB ?aS ?aL ?_
              (case aR => exact (Kd.R_reads' HL.out).2.2)
              (case aB => exact HB9.out)
              (case aF => exact fun k hk => ⟨⟨trivial, Kd.fresh' (Kd.R_lt HL.out) k hk⟩, by have := HI9.out.lt; omega⟩)
              (case aO => exact HI9.out.apart HO9.out (by decide))
              (case aS => exact HB9.out.size)
              (case aL => simp; omega)
              intro v10 w10 hr10 hb10 hg10 hat10
              have HO10 := Lib.hid (Kd.R_mono (ok' := fun _ => True) hr10 (fun _ _ => trivial))
              have HB10 := Lib.hid hb10
              have HI10 := Lib.hid (HI9.out.grown hg10 (HI9.out.own_ne HO9.out (by decide)))
              clear hr10 hb10 hg10 hat10 HI9 HO9 HB9 HL
              refine hK.out _ _ ?_
              clear hK K
              refine norm_ (a' := ?_) ?_ ?_
              rotate_left
              · show Act.put _ (some 112) _ = _
                simp only [Act.put, List.setIfInBounds_toArray, List.set_cons_zero, List.set_cons_succ, i64_w, i32_w]
                rfl
              refine pz_ (i := 15) (N := some 9) #[true, true, true, true, true, true, true, true, true, true, true, true, true, true, true, true] (by kernel_rfl) ?_
              refine done_ (by kernel_rfl) ?_
              try go_wp2
              go_roundw
              case rel => exact ⟨i + 1, a, b5, out ++ [⟨x.f0, y.f0⟩], by go_num, by omega, .inl hlt, by simp; omega, HAB5, HI10, HO10, HB10, Lib.hid (by rw [← HQ2.out, HOE.out]; rfl)⟩
              case measure => simp [intOf]; omega
        · have hq2 : decide (b5 > 0) = false := decide_eq_false hb0
          cases wi
          · have HPq := Lib.hid (show pW false a b5 = true by simp [pW, hb0]; omega)
            go_wp2_with fail
            go_quiet (fail)
            have HI6 := Lib.hid (HI5.out.drewN nq)
            have HO6 := Lib.hid (Kd.R_drewN HO5.out nq)
            have HB6 := Lib.hid (pw_below_drewN HB5.out nq)
            generalize w5.drewN nq = w6 at *
            clear HI5 HO5 HB5 hx0 hx1 hx2 hy0 hy1 hy2 hN0 hN1
            have HQ2 := Lib.hid (show pc (pW _) ((r.map toEnd).drop (i + 1)) a b5 (pushP out x.f0 y.f0) = pc (pW _) (r.map toEnd) 0 0 [] by rw [← HQ.out, if_neg (by simp [heq, HPq.out])])
            obtain ⟨ad2, ha2, hx0, hx1, hx2⟩ := at_T65 (Kd.C_below HC.out HB6.out) (i : Int) (by omega) (by omega)
            cases ha2
            obtain ⟨ad3, ha3, hy0, hy1, hy2⟩ := at_T65 (Kd.C_below HC.out HB6.out) ((i + 1 : Nat) : Int) (by omega) (by omega)
            cases ha3
            simp only [Int.toNat_natCast, hxx, hyy] at hx0 hx1 hx2 hy0 hy1 hy2
            obtain ⟨Ao, co, es⟩ := Kd.R_slice HO6.out
            subst es
            by_cases hz : 0 < out.length
            · have hk0 : decide ((out.length : Int) > 0) = true := decide_eq_true (by omega)
              obtain ⟨o, z, ez⟩ := snoc_of hz
              have hlo : out.length = o.length + 1 := by rw [ez]; simp
              obtain ⟨go, cg, eo, hgb, hgl, gcells, HGg⟩ := Kd.R_form HO6.out hz
              cases eo
              obtain ⟨ce, hcl, hM, hcc, hfr⟩ := Kd.R_elem HO6.out z23 (o.length : Int) (by omega) (by omega)
              obtain rfl := k23_openM hM
              have ezz : out.getD (o.length : Int).toNat z23 = z := by rw [ez]; simp [List.getD]
              have hz1 : w6.cell? ⟨go, o.length * 2 + 1, none⟩ = some (.int .i64 z.f1) := by have h := hcc 1 _ rfl; rw [← ezz]; exact h
              have hz1f : w6.frozen? ⟨go, o.length * 2 + 1, none⟩ = false := hfr 1
              clear hcl hcc hfr hM ezz
              have hidx : (out.length : Int) - 1 = (o.length : Int) := by omega
              have hidx2 : (o.length : Int) < (out.length : Int) := by omega
              have HEZ := Lib.hid ez
              have HLO := Lib.hid hlo
              clear hlo HGg
              by_cases hzx : z.f1 = x.f0
              · have hzx1 : (z.f1 == x.f0) = true := beq_iff_eq.mpr hzx
                clear ez
                go_wp2_with fail
                go_quiet (fail)
                have HI7 := Lib.hid (HI6.out.drewN nq)
                have HO7 := Lib.hid (Kd.R_drewN HO6.out nq)
                have HB7 := Lib.hid (pw_below_drewN HB6.out nq)
                replace hx0 : (w6.drewN nq).cell? (ad.add (i * 3)) = some (.int .i64 x.f0) := hx0
                replace hy0 : (w6.drewN nq).cell? (ad.add ((i + 1) * 3)) = some (.int .i64 y.f0) := hy0
                clear hz1 hz1f
                generalize w6.drewN nq = w7 at *
                have ez := HEZ.out
                obtain ⟨ce, hcl, hM, hcc, hfr⟩ := Kd.R_elem HO7.out z23 (o.length : Int) (by omega) (by omega)
                obtain rfl := k23_openM hM
                have ezz : out.getD (o.length : Int).toNat z23 = z := by rw [ez]; simp [List.getD]
                have hz1 : w7.cell? ⟨go, o.length * 2 + 1, none⟩ = some (.int .i64 z.f1) := by have h := hcc 1 _ rfl; rw [← ezz]; exact h
                have hz1f : w7.frozen? ⟨go, o.length * 2 + 1, none⟩ = false := hfr 1
                clear hcl hcc hfr hM ezz
                skip
                have HSEG := Lib.hid (seg_row (y := y.f0) HO7.out ez)
                clear ez
                have HI8 := Lib.hid (HI7.out.far (p := ⟨go, o.length * 2 + 1, none⟩) (fun e => HI7.out.own_ne HO7.out (by decide) (congrArg some e)) (.int .i64 y.f0))
                have HB8 := Lib.hid (below_set (j := o.length * 2 + 1) (v := .int .i64 y.f0) HB7.out (Kd.R_base HO7.out go rfl))
                have HO8 := Lib.hid HSEG.out.1
                clear HI7 HO7 HB7 HSEG
                go_wp2_with fail
                go_roundw
                case rel => exact ⟨i + 1, a, b5, o ++ [⟨z.f0, y.f0⟩], by go_num, by omega, .inl hlt, by have := HLO.out; simp; omega, HAB5, HI8, HO8, HB8, Lib.hid (by rw [← HQ2.out, HEZ.out, pushP_snoc, if_pos hzx])⟩
                case measure => simp [intOf]; omega
              · have hzx1 : (z.f1 == x.f0) = false := beq_eq_false_iff_ne.mpr hzx
                clear ez
                go_wp2_with fail
                go_quiet (fail)
                go_wp2_with fail
                have HI7 := Lib.hid (HI6.out.drewN nq)
                have HO7 := Lib.hid (Kd.R_drewN HO6.out nq)
                have HB7 := Lib.hid (pw_below_drewN HB6.out nq)
                replace hx0 : (w6.drewN nq).cell? (ad.add (i * 3)) = some (.int .i64 x.f0) := hx0
                replace hy0 : (w6.drewN nq).cell? (ad.add ((i + 1) * 3)) = some (.int .i64 y.f0) := hy0
                clear hz1 hz1f
                generalize w6.drewN nq = w7 at *
                have hin : i < n := by omega
                have h0i : 0 ≤ (i : Int) + 1 := by omega
                have h1i : (i : Int) + 1 < (n : Int) := by omega
                have hti : ((i : Int) + 1).toNat = i + 1 := by omega
                have hwi : wrap64 ((i : Int) + 1) = (i : Int) + 1 := wp64 (by omega) (by omega)
                refine start_ (n := 16) (S := fun w' => w'.cell? (ad.add (i * 3)) = some (.int .i64 x.f0) ∧ w'.cell? (ad.add ((i + 1) * 3)) = some (.int .i64 y.f0)) (ds := [14]) #[false, false, false, false, false, false, false, false, false, false, false, false, false, false, false, false] (by kernel_rfl) rfl rfl ⟨hx0, hy0⟩ (fun hHeld => ?_)
                have HI8 := Lib.hid HI7.out.drew
                have HO8 := Lib.hid (Kd.R_drew HO7.out)
                have HB8 := Lib.hid (below_drew1 HB7.out)
                refine pz_ (i := 0) (N := some 98) #[true, false, false, false, false, false, false, false, false, false, false, false, false, false, false, false] (by kernel_rfl) ?_
                refine pz_ (i := 1) (N := some 99) #[true, true, false, false, false, false, false, false, false, false, false, false, false, false, false, false] (by kernel_rfl) ?_
                refine pz_ (i := 2) (N := some 100) #[true, true, true, false, false, false, false, false, false, false, false, false, false, false, false, false] (by kernel_rfl) ?_
                refine pz_ (i := 3) (N := some 101) #[true, true, true, true, false, false, false, false, false, false, false, false, false, false, false, false] (by kernel_rfl) ?_
                refine pz_ (i := 4) (N := some 102) #[true, true, true, true, true, false, false, false, false, false, false, false, false, false, false, false] (by kernel_rfl) ?_
                refine tz_ (i := 5) (N := some 103) #[true, true, true, true, true, true, false, false, false, false, false, false, false, false, false, false] (by kernel_rfl) hHeld ?_
                refine pz_ (i := 6) (N := some 104) #[true, true, true, true, true, true, true, false, false, false, false, false, false, false, false, false] (by kernel_rfl) ?_
                refine pz_ (i := 7) (N := some 105) #[true, true, true, true, true, true, true, true, false, false, false, false, false, false, false, false] (by kernel_rfl) ?_
                refine pz_ (i := 8) (N := some 106) #[true, true, true, true, true, true, true, true, true, false, false, false, false, false, false, false] (by kernel_rfl) ?_
                refine pz_ (i := 9) (N := some 107) #[true, true, true, true, true, true, true, true, true, true, false, false, false, false, false, false] (by kernel_rfl) ?_
                refine pz_ (i := 10) (N := some 108) #[true, true, true, true, true, true, true, true, true, true, true, false, false, false, false, false] (by kernel_rfl) ?_
                refine tz_ (i := 11) (N := some 109) #[true, true, true, true, true, true, true, true, true, true, true, true, false, false, false, false] (by kernel_rfl) hHeld ?_
                refine pz_ (i := 12) (N := some 110) #[true, true, true, true, true, true, true, true, true, true, true, true, true, false, false, false] (by kernel_rfl) ?_
                clear hwi hti h0i h1i
                refine one_ (i := 13) (N := some 111) #[true, true, true, true, true, true, true, true, true, true, true, true, true, true, false, false] rfl rfl (by kernel_rfl) (by decide) (fun K hK => ?_)
                refine Kd.R_lit_step k23 (w0 := w3) w3.heap.size 23 ?hg (N := 111) ?hd (xs := ([(⟨x.f0, y.f0⟩ : S23)] : List S23)) (inner := [.int .i64 x.f0, .int .i64 y.f0]) (ok := fun _ => True) (okp := fun _ => True) ?hr ?hp (fun _ hk => hk) trivial HB8.out HB8.out.size (by simp) ?_; (case hd => rfl); (case hg => rfl); (case hr => first | (go_simp; done) | (go_simp; rfl)); (case hp => exact (Reps.c2 (show Kd.M k23 _ _ _ (⟨x.f0, y.f0⟩ : S23) [.int .i64 x.f0, .int .i64 y.f0] from (k23_mkM _ _ _ (⟨x.f0, y.f0⟩ : S23))) (Reps.none _ _)))
                intro v9 w9 hr9 hb9 hg9 hnew9
                have HS0 := (Kd.C_below HC.out hb9)
                have hS : w9.cell? (ad.add (i * 3)) = some (.int .i64 x.f0) ∧ w9.cell? (ad.add ((i + 1) * 3)) = some (.int .i64 y.f0) := ⟨cell_grown hg9 hHeld.1 (by simp), cell_grown hg9 hHeld.2 (by simp)⟩
                have HL := Lib.hid hr9
                have HB9 := Lib.hid hb9
                have HI9 := Lib.hid (HI8.out.grown hg9 (by simp))
                have HO9 := Lib.hid (row_apart HO8.out hg9 hnew9)
                clear hr9 hb9 hg9 hnew9 HS0 HI8 HO8 HB8
                obtain ⟨Al, cl, el⟩ := Kd.R_slice HL.out
                subst el
                refine hK.out _ _ hS (fun hHeld => ?_)
                clear hK K
                refine norm_ (a' := ?_) ?_ ?_
                rotate_left
                · show Act.put _ (some 111) _ = _
                  simp only [Act.put, List.setIfInBounds_toArray, List.set_cons_zero, List.set_cons_succ, i64_w, i32_w]
                  rfl
                refine last_ (i := 14) (N := some 112) #[true, true, true, true, true, true, true, true, true, true, true, true, true, true, true, false] rfl rfl (by kernel_rfl) (by decide) (fun K hK => ?_)
                refine Kd.R_append_rows_step k23 (w0 := w3) w3.heap.size (by rfl) (.tmp 98) (.tmp 111) 29 23 (.agg #[(.int .i64 0), (.int .i64 0)]) 16 rfl Try.underlying29 info23 rfl (by decide) (by omega) (.slice (some ⟨go, 0, none⟩) out.length co) out [(⟨x.f0, y.f0⟩ : S23)] Al _ _ (fun k => (True ∧ some k ≠ (Value.slice Al ([(⟨x.f0, y.f0⟩ : S23)] : List S23).length cl).ownBlock) ∧ k ≠ w3.heap.size) (fun _ => False) rfl rfl ?aO ?aR (fun _ _ h => h) (fun _ h => h.elim) ?aF ?aB ?aS ?aL ?_
                (case aR => exact (Kd.R_reads' HL.out).2.2)
                (case aB => exact HB9.out)
                (case aF => exact fun k hk => ⟨⟨trivial, Kd.fresh' (Kd.R_lt HL.out) k hk⟩, by have := HI9.out.lt; omega⟩)
                (case aO => exact HI9.out.apart HO9.out (by decide))
                (case aS => exact HB9.out.size)
                (case aL => simp; omega)
                intro v10 w10 hr10 hb10 hg10 hat10
                have HO10 := Lib.hid (Kd.R_mono (ok' := fun _ => True) hr10 (fun _ _ => trivial))
                have HB10 := Lib.hid hb10
                have HI10 := Lib.hid (HI9.out.grown hg10 (HI9.out.own_ne HO9.out (by decide)))
                clear hr10 hb10 hg10 hat10 HI9 HO9 HB9 HL
                refine hK.out _ _ ?_
                clear hK K
                refine norm_ (a' := ?_) ?_ ?_
                rotate_left
                · show Act.put _ (some 112) _ = _
                  simp only [Act.put, List.setIfInBounds_toArray, List.set_cons_zero, List.set_cons_succ, i64_w, i32_w]
                  rfl
                refine pz_ (i := 15) (N := some 9) #[true, true, true, true, true, true, true, true, true, true, true, true, true, true, true, true] (by kernel_rfl) ?_
                refine done_ (by kernel_rfl) ?_
                try go_wp2
                go_roundw
                case rel => exact ⟨i + 1, a, b5, out ++ [⟨x.f0, y.f0⟩], by go_num, by omega, .inl hlt, by simp; omega, HAB5, HI10, HO10, HB10, Lib.hid (by rw [← HQ2.out, HEZ.out, pushP_snoc, if_neg hzx])⟩
                case measure => simp [intOf]; omega
            · have hk0 : decide ((out.length : Int) > 0) = false := decide_eq_false (by omega)
              have hoe : out = [] := List.eq_nil_of_length_eq_zero (by omega)
              have HOE := Lib.hid hoe
              clear hoe
              go_wp2_with fail
              go_quiet (fail)
              go_wp2_with fail
              have HI7 := Lib.hid (HI6.out.drewN nq)
              have HO7 := Lib.hid (Kd.R_drewN HO6.out nq)
              have HB7 := Lib.hid (pw_below_drewN HB6.out nq)
              replace hx0 : (w6.drewN nq).cell? (ad.add (i * 3)) = some (.int .i64 x.f0) := hx0
              replace hy0 : (w6.drewN nq).cell? (ad.add ((i + 1) * 3)) = some (.int .i64 y.f0) := hy0
              generalize w6.drewN nq = w7 at *
              have hin : i < n := by omega
              have h0i : 0 ≤ (i : Int) + 1 := by omega
              have h1i : (i : Int) + 1 < (n : Int) := by omega
              have hti : ((i : Int) + 1).toNat = i + 1 := by omega
              have hwi : wrap64 ((i : Int) + 1) = (i : Int) + 1 := wp64 (by omega) (by omega)
              refine start_ (n := 16) (S := fun w' => w'.cell? (ad.add (i * 3)) = some (.int .i64 x.f0) ∧ w'.cell? (ad.add ((i + 1) * 3)) = some (.int .i64 y.f0)) (ds := [14]) #[false, false, false, false, false, false, false, false, false, false, false, false, false, false, false, false] (by kernel_rfl) rfl rfl ⟨hx0, hy0⟩ (fun hHeld => ?_)
              have HI8 := Lib.hid HI7.out.drew
              have HO8 := Lib.hid (Kd.R_drew HO7.out)
              have HB8 := Lib.hid (below_drew1 HB7.out)
              refine pz_ (i := 0) (N := some 98) #[true, false, false, false, false, false, false, false, false, false, false, false, false, false, false, false] (by kernel_rfl) ?_
              refine pz_ (i := 1) (N := some 99) #[true, true, false, false, false, false, false, false, false, false, false, false, false, false, false, false] (by kernel_rfl) ?_
              refine pz_ (i := 2) (N := some 100) #[true, true, true, false, false, false, false, false, false, false, false, false, false, false, false, false] (by kernel_rfl) ?_
              refine pz_ (i := 3) (N := some 101) #[true, true, true, true, false, false, false, false, false, false, false, false, false, false, false, false] (by kernel_rfl) ?_
              refine pz_ (i := 4) (N := some 102) #[true, true, true, true, true, false, false, false, false, false, false, false, false, false, false, false] (by kernel_rfl) ?_
              refine tz_ (i := 5) (N := some 103) #[true, true, true, true, true, true, false, false, false, false, false, false, false, false, false, false] (by kernel_rfl) hHeld ?_
              refine pz_ (i := 6) (N := some 104) #[true, true, true, true, true, true, true, false, false, false, false, false, false, false, false, false] (by kernel_rfl) ?_
              refine pz_ (i := 7) (N := some 105) #[true, true, true, true, true, true, true, true, false, false, false, false, false, false, false, false] (by kernel_rfl) ?_
              refine pz_ (i := 8) (N := some 106) #[true, true, true, true, true, true, true, true, true, false, false, false, false, false, false, false] (by kernel_rfl) ?_
              refine pz_ (i := 9) (N := some 107) #[true, true, true, true, true, true, true, true, true, true, false, false, false, false, false, false] (by kernel_rfl) ?_
              refine pz_ (i := 10) (N := some 108) #[true, true, true, true, true, true, true, true, true, true, true, false, false, false, false, false] (by kernel_rfl) ?_
              refine tz_ (i := 11) (N := some 109) #[true, true, true, true, true, true, true, true, true, true, true, true, false, false, false, false] (by kernel_rfl) hHeld ?_
              refine pz_ (i := 12) (N := some 110) #[true, true, true, true, true, true, true, true, true, true, true, true, true, false, false, false] (by kernel_rfl) ?_
              clear hwi hti h0i h1i
              refine one_ (i := 13) (N := some 111) #[true, true, true, true, true, true, true, true, true, true, true, true, true, true, false, false] rfl rfl (by kernel_rfl) (by decide) (fun K hK => ?_)
              refine Kd.R_lit_step k23 (w0 := w3) w3.heap.size 23 ?hg (N := 111) ?hd (xs := ([(⟨x.f0, y.f0⟩ : S23)] : List S23)) (inner := [.int .i64 x.f0, .int .i64 y.f0]) (ok := fun _ => True) (okp := fun _ => True) ?hr ?hp (fun _ hk => hk) trivial HB8.out HB8.out.size (by simp) ?_; (case hd => rfl); (case hg => rfl); (case hr => first | (go_simp; done) | (go_simp; rfl)); (case hp => exact (Reps.c2 (show Kd.M k23 _ _ _ (⟨x.f0, y.f0⟩ : S23) [.int .i64 x.f0, .int .i64 y.f0] from (k23_mkM _ _ _ (⟨x.f0, y.f0⟩ : S23))) (Reps.none _ _)))
              intro v9 w9 hr9 hb9 hg9 hnew9
              have HS0 := (Kd.C_below HC.out hb9)
              have hS : w9.cell? (ad.add (i * 3)) = some (.int .i64 x.f0) ∧ w9.cell? (ad.add ((i + 1) * 3)) = some (.int .i64 y.f0) := ⟨cell_grown hg9 hHeld.1 (by simp), cell_grown hg9 hHeld.2 (by simp)⟩
              have HL := Lib.hid hr9
              have HB9 := Lib.hid hb9
              have HI9 := Lib.hid (HI8.out.grown hg9 (by simp))
              have HO9 := Lib.hid (row_apart HO8.out hg9 hnew9)
              clear hr9 hb9 hg9 hnew9 HS0 HI8 HO8 HB8
              obtain ⟨Al, cl, el⟩ := Kd.R_slice HL.out
              subst el
              refine hK.out _ _ hS (fun hHeld => ?_)
              clear hK K
              refine norm_ (a' := ?_) ?_ ?_
              rotate_left
              · show Act.put _ (some 111) _ = _
                simp only [Act.put, List.setIfInBounds_toArray, List.set_cons_zero, List.set_cons_succ, i64_w, i32_w]
                rfl
              refine last_ (i := 14) (N := some 112) #[true, true, true, true, true, true, true, true, true, true, true, true, true, true, true, false] rfl rfl (by kernel_rfl) (by decide) (fun K hK => ?_)
              refine Kd.R_append_rows_step k23 (w0 := w3) w3.heap.size (by rfl) (.tmp 98) (.tmp 111) 29 23 (.agg #[(.int .i64 0), (.int .i64 0)]) 16 rfl Try.underlying29 info23 rfl (by decide) (by omega) (.slice Ao out.length co) out [(⟨x.f0, y.f0⟩ : S23)] Al _ _ (fun k => (True ∧ some k ≠ (Value.slice Al ([(⟨x.f0, y.f0⟩ : S23)] : List S23).length cl).ownBlock) ∧ k ≠ w3.heap.size) (fun _ => False) rfl rfl ?aO ?aR (fun _ _ h => h) (fun _ h => h.elim) ?aF ?aB ?aS ?aL ?_
              (case aR => exact (Kd.R_reads' HL.out).2.2)
              (case aB => exact HB9.out)
              (case aF => exact fun k hk => ⟨⟨trivial, Kd.fresh' (Kd.R_lt HL.out) k hk⟩, by have := HI9.out.lt; omega⟩)
              (case aO => exact HI9.out.apart HO9.out (by decide))
              (case aS => exact HB9.out.size)
              (case aL => simp; omega)
              intro v10 w10 hr10 hb10 hg10 hat10
              have HO10 := Lib.hid (Kd.R_mono (ok' := fun _ => True) hr10 (fun _ _ => trivial))
              have HB10 := Lib.hid hb10
              have HI10 := Lib.hid (HI9.out.grown hg10 (HI9.out.own_ne HO9.out (by decide)))
              clear hr10 hb10 hg10 hat10 HI9 HO9 HB9 HL
              refine hK.out _ _ ?_
              clear hK K
              refine norm_ (a' := ?_) ?_ ?_
              rotate_left
              · show Act.put _ (some 112) _ = _
                simp only [Act.put, List.setIfInBounds_toArray, List.set_cons_zero, List.set_cons_succ, i64_w, i32_w]
                rfl
              refine pz_ (i := 15) (N := some 9) #[true, true, true, true, true, true, true, true, true, true, true, true, true, true, true, true] (by kernel_rfl) ?_
              refine done_ (by kernel_rfl) ?_
              try go_wp2
              go_roundw
              case rel => exact ⟨i + 1, a, b5, out ++ [⟨x.f0, y.f0⟩], by go_num, by omega, .inl hlt, by simp; omega, HAB5, HI10, HO10, HB10, Lib.hid (by rw [← HQ2.out, HOE.out]; rfl)⟩
              case measure => simp [intOf]; omega
          · have HPq := Lib.hid (show pW true a b5 = false by simp [pW, hb0])
            go_wp2_with fail
            go_quiet (fail)
            go_wp2_with fail
            have HI6 := Lib.hid (HI5.out.drewN nq)
            have HO6 := Lib.hid (Kd.R_drewN HO5.out nq)
            have HB6 := Lib.hid (pw_below_drewN HB5.out nq)
            go_roundw
            case rel => exact ⟨i + 1, a, b5, out, by go_num, by omega, .inl hlt, by omega, HAB5, HI6, HO6, HB6, Lib.hid (by rw [← HQ.out, if_pos (by simp [HPq.out])])⟩
            case measure => simp [intOf]; omega
    · have hlt0 : decide (((i : Int) + 1) < (n : Int)) = false := decide_eq_false (by omega)
      have hfin : out = piecesL wi l0 l1 := by
        rw [← pieces_eq, ← pc_eq (pW wi) rfl l0 l1 (r.map toEnd) HP.out HR.out, ← HE.out]
        by_cases h : i < n
        · rw [List.drop_eq_getElem_cons (by simp; omega), List.drop_eq_nil_of_le (by simp; omega), pc_end]
        · rw [List.drop_eq_nil_of_le (by simp; omega)]; unfold pc; rfl
      have HF := Lib.hid hfin
      clear hfin
      go_wp2_with fail
      go_ret
      refine ⟨_, rfl, ?_, HB3.out.trans (HB.out.mono HB3.out.size)⟩
      rw [← HF.out]
      exact Kd.R_lower HO.out HB3.out.size
def spoorref06_pieces.f (l0 l1 : List S23) (a2 : Bool) : Option (List S23) := if 2 * (l0.length + l1.length) < 4294967296 then some (piecesL a2 l0 l1) else none
theorem spoorref06_pieces.calls (A0 : Option Addr) (c0 : Nat) (l0 : List S23) (A1 : Option Addr) (c1 : Nat) (l1 : List S23) (a2 : Bool) (r : List S23) (w : World) (hr0 : Kd.C k23 w A0 l0.length l0) (hc0 : l0.length ≤ c0) (hr1 : Kd.C k23 w A1 l1.length l1) (hc1 : l1.length ≤ c1) (h : spoorref06_pieces.f l0 l1 a2 = some r) :
    Calls Try.prog 42 #[.slice A0 l0.length c0, .slice A1 l1.length c1, .bool a2] w fun e w' => ∃ v0_ : Value, e = .returned (v0_) ∧ Kd.R k23 23 w' w.heap.size (fun _ => True) v0_ r ∧ Below w.heap.size w w' := by
  unfold spoorref06_pieces.f at h
  split at h
  · rename_i hl
    obtain rfl := Option.some.inj h
    exact pieces_run A0 c0 l0 A1 c1 l1 a2 w hr0 hc0 hr1 hc1 hl
  · cases h
end Go.Proofs.Ytafpmcmpkgbgaaa.Pr
