/- A range over a function whose rounds are handed things that lie in memory: the round is told what lies there (V x W). -/
import Derived.RangeFuncNested
import Derived.RangeFuncBound
import Derived.RangeFuncCalls
import Derived.RangeFuncLeaves
namespace Go.Proofs.YthdkgilpnkabmaaGreatDoor.Rv
open Go Go.RowKit
set_option linter.unusedVariables false
section
variable {F : Fence} {n : Nat} {P : Program} {α : Type}
/-- The contract of an iterator that tells each round what it hands over. -/
def SeqV (F : Fence) (n : Nat) (P : Program) (g : Nat) (lb : Array Value) (encs : α → Array Value) (Kp : World → World → Prop) (V : α → World → Prop) (S Sp : List α → Prop) (N : Nat) (w : World) : Prop :=
  ∀ (l : Nat) (J Jx : List α → World → Prop) (W : World), Below w.heap.size w W → AbidesFrom W.heap.size J → AbidesFrom W.heap.size Jx →
    (∀ pre x W1, J pre W1 → V x W1 → pre.length < N → YieldAt F (n - 1) P l (encs x) W1 fun e W' =>
      (e = .returned (.bool true) ∧ J (pre ++ [x]) W' ∧ Kp W1 W') ∨ (e = .returned (.bool false) ∧ Jx (pre ++ [x]) W')) →
    J [] W →
    CallsIn F n P g (#[.func (.yield l) #[] #[]] ++ lb) W fun e W' => (∃ v, e = .returned v) ∧ ((∃ xs, S xs ∧ J xs W') ∨ (∃ pre, Sp pre ∧ Jx pre W'))
/-- The loop's two blocks. -/
def Two (r : Loop) (D : Nat) (W : World) : Prop := W.heap[D + 1]? = some (.loop r) ∧ W.heap[D]? = some (.deferred (some []))
theorem Two.keeps {r : Loop} {D : Nat} {A B : World} (h : Two r D A) (k : KeepsFrom D A B) : Two r D B := ⟨k.same _ _ (by omega) h.1 rfl, k.same _ _ (Nat.le_refl _) h.2 rfl⟩
theorem Two.grown {r : Loop} {D : Nat} {A B : World} {row : Option Nat} (h : Two r D A) (hg : A.grownBy B row) (hr : ∀ k, row = some k → ∃ o : Obj, A.heap[k]? = some o ∧ o.isWalk = true) : Two r D B :=
  ⟨(grownBy_keeps hg hr h.1 rfl).trans h.1, (grownBy_keeps hg hr h.2 rfl).trans h.2⟩
theorem Two.put {r r' : Loop} {D : Nat} {A : World} (h : Two r D A) : Two r' D (A.putObj (D + 1) (.loop r')) :=
  ⟨World.putObj_heap_same (Array.getElem?_eq_some_iff.1 h.1).1, (World.putObj_heap_other (by omega)).trans h.2⟩
theorem wpIn_rangeV {g : Operand} {ps : Array Tmp} {assign body : Code} {Q : Exit → Act → World → Prop} {a : Act} {w : World}
    (hro : F.round = none) (h1 : 1 ≤ n) {gf : Nat} {lb : Array Value} (hg : a.eval g = .func (.func gf) #[] lb) (hFg : F.fn gf) (eg : ∀ args w, (callFunc gf args).run P w = .ok (.enter gf args) w)
    {encs : α → Array Value} {Kp : World → World → Prop} {V : α → World → Prop} {S Sp : List α → Prop} {N : Nat} {w0 : World} (hseq : SeqV F (n - 1) P gf lb encs Kp V S Sp N w0)
    (hKt : ∀ {A B C : World}, Kp A B → Kp B C → Kp A C) (hKb : ∀ (W : World) (l : Nat) (o o' : Obj), w.heap.size ≤ l → W.heap[l]? = some o → o.isCells = false → o.isWalk = false → Kp W (W.putObj l o')) (hb0 : Below w0.heap.size w0 w) (hps : ∀ x, (encs x).size = ps.size)
    (I : List α → World → Prop) (Ix : Code → List α → World → Prop) (hI : OwnFrom w.heap.size I) (hIx : ∀ c, OwnFrom w.heap.size (Ix c)) (h0 : I [] w) (Ax : α → Act → World → Prop) (hAx : ∀ x a', OwnFrom w.heap.size (fun (_ : Unit) W => Ax x a' W))
    (hassign : ∀ (l : Nat) (pre : List α) (x : α) (W : World) (K : Act → World → Prop), I pre W → V x W → (∀ a' W', KeepsFrom w.heap.size W W' → Kp W W' → I pre W' → Ax x a' W' → K a' W') →
      assign.wpIn (F.inRound l) (n - 1 - 1) P (Exit.then K (fun _ _ _ => False)) { tmps := (ps.zip (encs x)).foldl (fun t (p, v) => t.setIfInBounds p v) a.tmps, defers := [] } W)
    (hbody : ∀ (l : Nat) (pre : List α) (x : α) (a' : Act) (W : World), w.heap.size ≤ l → (∃ r, W.heap[l]? = some (.loop r)) → I pre W → Ax x a' W → pre.length < N → body.wpIn (F.inRound l) (n - 1 - 1) P (ownPostG w.heap.size Kp I Ix (pre ++ [x]) W) a' W)
    (hdone : ∀ (D : Nat) (xs : List α) (W : World), w.heap.size ≤ D → S xs → I xs W → W.heap[D]? = some (.deferred (some [])) → Q .normal { a with defers := { target := .collected D, args := #[] } :: a.defers } W)
    (hstop : ∀ (D : Nat) (c : Code) (pre : List α) (W : World), w.heap.size ≤ D → Sp pre → Ix c pre W → W.heap[D]? = some (.deferred (some [])) → c.wpIn F n P Q { a with defers := { target := .collected D, args := #[] } :: a.defers } W) :
    (Code.rangeFunc g ps assign body).wpIn F n P Q a w := by
  refine wpIn_rangeFunc fun fn hfn => ?_
  rw [hro]
  obtain ⟨D, hD⟩ : ∃ D, D = w.heap.size := ⟨_, rfl⟩
  rw [← hD] at hI hIx hAx hassign hbody hdone hstop hKb
  obtain ⟨r, hr⟩ : ∃ r : LoopState → Option Code → Loop, ∀ st pe, r st pe = { state := st, pending := pe, fn, tmps := a.tmps, params := ps, assign, body, defers := D } := ⟨_, fun _ _ => rfl⟩
  have hrun := run_enterLoop_outer (P := P) (w := w) fn a.tmps ps assign body
  rw [← hD, ← hr .ready none] at hrun
  have ht1 : Two (r .ready none) D ((w.alloc (.deferred (some []))).alloc (.loop (r .ready none))) := by
    subst hD
    refine ⟨?_, (Below.heap_alloc _ _ _ (by simp)).trans (World.alloc_heap_new w _)⟩
    have := World.alloc_heap_new (w.alloc (.deferred (some []))) (.loop (r .ready none))
    rwa [World.size_alloc] at this
  have hi1 : I [] ((w.alloc (.deferred (some []))).alloc (.loop (r .ready none))) := hI.alloc _ (hI.alloc _ h0)
  have hb1 : Below w0.heap.size w0 ((w.alloc (.deferred (some []))).alloc (.loop (r .ready none))) := hb0.trans ((((Below.refl _ w).alloc (Nat.le_refl _) _).alloc (by simp) _).mono hb0.size)
  have hs1 : D ≤ ((w.alloc (.deferred (some []))).alloc (.loop (r .ready none))).heap.size := by simp; omega
  generalize (w.alloc (.deferred (some []))).alloc (.loop (r .ready none)) = w1 at *
  refine ⟨D + 1, _, w1, { target := .fn (.func gf) lb, args := #[.func (.yield (D + 1)) #[] #[]] }, w1, gf, #[.func (.yield (D + 1)) #[] #[]] ++ lb, w1, hrun, by simp only [resolve, hg]; simp [go_sem], fun f' hf' => by simp [Target.leads] at hf'; subst hf'; exact hFg, by simp [invoke, go_sem, eg], fun _ => h1, ?_⟩
  have hw : ∀ {A : World} {row : Option Nat}, (∀ k, row = some k → w1.heap.size ≤ k ∧ ∃ o : Obj, A.heap[k]? = some o ∧ o.isWalk = true) → (∀ k, row = some k → D ≤ k ∧ ∃ o : Obj, A.heap[k]? = some o ∧ o.isCells = false) :=
    fun h k e => by obtain ⟨h2, o, h3, h4⟩ := h k e; exact ⟨Nat.le_trans hs1 h2, o, h3, Obj.not_cells_of_walk h4⟩
  refine (hseq (D + 1) (fun pre W => I pre W ∧ Two (r .ready none) D W) (fun pre W => ∃ c, Ix c pre W ∧ Two (r .done (some c)) D W) w1 hb1
    (fun s A B row hs hg' hr' => ⟨hI s A B row hs.1 hg' (hw hr'), hs.2.grown hg' (fun k e => (hr' k e).2)⟩)
    (fun s A B row hs hg' hr' => by obtain ⟨c, hc, h2⟩ := hs; exact ⟨c, hIx c s A B row hc hg' (hw hr'), h2.grown hg' (fun k e => (hr' k e).2)⟩) ?_ ⟨hi1, ht1⟩).mono ?_
  · rintro pre x W ⟨hi, ht⟩ hv hlen
    have hy := run_yield (P := P) (args := encs x) ht.1 (by rw [hr]; exact hps x)
    rw [hr] at hy
    refine ⟨fn, _, assign, body, hy, roundIn_of_wpIn hfn (hassign _ pre x W _ hi hv fun a' Wa k1 p1 i1 x1 => ?_)⟩
    have ta := ht.keeps k1
    refine ⟨_, run_beginRound ta.1 (by rw [hr]), ?_⟩
    have tb : Two { r .ready none with state := .busy } D (Wa.putObj (D + 1) (.loop { r .ready none with state := .busy })) := ta.put
    refine wpIn_mono (hbody _ pre x a' _ (by omega) ⟨_, tb.1⟩ (hI.putObj _ i1 (by omega) ta.1 rfl) ((hAx x a').putObj (s := ()) _ x1 (by omega) ta.1 rfl) hlen) ?_
    have pb : Kp Wa (Wa.putObj (D + 1) (.loop { r .ready none with state := .busy })) := hKb _ _ _ _ (by omega) ta.1 rfl rfl
    have fin : ∀ (j : Option Code) (W3 : World), Two { r .ready none with state := .busy } D W3 →
        (Instr.endRound (D + 1) j).run P W3 = .ok (.bool j.isNone) (W3.putObj (D + 1) (.loop (r (if j.isNone then .ready else .done) j))) := fun j W3 h3 => by
      have := run_endRound (P := P) j h3.1
      rw [hr] at this ⊢
      exact this
    rintro e a3 W3 hp
    cases e with
    | normal =>
      obtain ⟨k3, p3, i3⟩ := hp
      have t3 := tb.keeps k3
      exact ⟨_, _, fin none W3 t3, .inl ⟨rfl, ⟨hI.putObj _ i3 (by omega) t3.1 rfl, t3.put⟩, hKt p1 (hKt (hKt pb p3) (hKb _ _ _ _ (by omega) t3.1 rfl rfl))⟩⟩
    | ret =>
      obtain ⟨k3, i3⟩ := hp
      have t3 := tb.keeps k3
      exact ⟨_, _, fin (some .ret) W3 t3, .inr ⟨rfl, .ret, (hIx _).putObj _ i3 (by omega) t3.1 rfl, t3.put⟩⟩
    | exit id =>
      obtain ⟨k3, i3⟩ := hp
      have t3 := tb.keeps k3
      exact ⟨_, _, fin (some (.exit id)) W3 t3, .inr ⟨rfl, .exit id, (hIx _).putObj _ i3 (by omega) t3.1 rfl, t3.put⟩⟩
    | goto t =>
      obtain ⟨k3, i3⟩ := hp
      have t3 := tb.keeps k3
      exact ⟨_, _, fin (some (.goto t)) W3 t3, .inr ⟨rfl, .goto t, (hIx _).putObj _ i3 (by omega) t3.1 rfl, t3.put⟩⟩
    | panic ch => exact hp.elim
    | outgrown => exact hp.elim
  · rintro e W2 ⟨⟨v, rfl⟩, (⟨xs, hS, hi, ht⟩ | ⟨pre, hSp, c, hi, ht⟩)⟩
    · refine ⟨none, W2.putObj (D + 1) (.loop { r .ready none with state := .exhausted }), ?_, hdone D xs _ (Nat.le_refl _) hS (hI.putObj _ hi (by omega) ht.1 rfl) ht.put.2⟩
      have := run_endLoop (P := P) ht.1 (by rw [hr]; simp)
      rw [hr] at this ⊢
      exact this
    · refine ⟨some c, W2.putObj (D + 1) (.loop { r .done (some c) with state := .exhausted }), ?_, hstop D c pre _ (Nat.le_refl _) hSp ((hIx c).putObj _ hi (by omega) ht.1 rfl) ht.put.2⟩
      have := run_endLoop (P := P) ht.1 (by rw [hr]; simp)
      rw [hr] at this ⊢
      exact this
end
end Go.Proofs.YthdkgilpnkabmaaGreatDoor.Rv
