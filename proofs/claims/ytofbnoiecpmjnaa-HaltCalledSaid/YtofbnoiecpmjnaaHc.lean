/- What Under makes. -/
import Derived.Test.YtofbnoiecpmjnaaHb
import Derived.Test.YtofbnoiecpmjnaaSh
import Derived.Deep.QuietTactic
import Derived.BigQuiet
namespace Go.Proofs.Ytofbnoiecpmjnaa.Pr
open Go.RowKit Go.Proofs.YtofbnoiecpmjnaaW.PrintWords Go.Proofs.YtofbnoiecpmjnaaW.PrintLast Go.Proofs.YtofbnoiecpmjnaaW.PrintMore Go.MuLone
open Go.Lib
set_option linter.unusedVariables false
set_option linter.unusedSimpArgs false
def encP (g : Nat) : Value := ptrOf g
/-- The rows of pointers to stops. -/
def kP : Kd Nat := Kd.scalar encP (fun _ => rfl)
theorem lt_of {W : World} {g : Nat} {o : Obj} (h : W.heap[g]? = some o) : g < W.heap.size := (Array.getElem?_eq_some_iff.1 h).1
theorem heap_alloc_lt (W : World) (o : Obj) {k : Nat} (h : k < W.heap.size) : (W.alloc o).heap[k]? = W.heap[k]? := (below_alloc (Below.refl W.heap.size W) o).block k h
theorem IsStop.alloc {W : World} {m g : Nat} {s : SR} (h : IsStop W m g s) (o : Obj) : IsStop (W.alloc o) m g s := (heap_alloc_lt W o (lt_of h)).trans h
theorem IsMu.alloc {W : World} {m : Nat} (h : IsMu W m) (o : Obj) : IsMu (W.alloc o) m := (heap_alloc_lt W o (lt_of h)).trans h
theorem made_stop (n : Int) (W : World) : IsStop (((W.alloc muObj).alloc (chObj false)).alloc (.cells ((newSR n (W.heap.size + 1)).cells W.heap.size) 70)) W.heap.size (W.heap.size + 2) (newSR n (W.heap.size + 1)) := by
  have := heap_alloc_new ((W.alloc muObj).alloc (chObj false)) (.cells ((newSR n (W.heap.size + 1)).cells W.heap.size) 70)
  simpa [IsStop] using this
theorem skip_step {P : Program} {ops : Array Oper} {o : Oper} {a : Act} {Q : Exit → Act → World → Prop} {Kc : Act → World → Prop} {W w1 : World} (hw : Region.wanted o (yielded ops a.tmps) = true) (hN : o.dst = none)
    (hrun : (execOp a.eval o).run P W = .ok .skip w1) (h : Kc a w1) : if Region.wanted o (yielded ops a.tmps) = true then Oper.wp P o a W Kc Q else Kc (a.put o.dst undef) W := by
  rw [if_pos hw]
  unfold Oper.wp
  rw [hrun]
  show Kc (a.put o.dst undef) w1
  rw [hN]
  exact h
/-- Nothing panics here. -/
def noPanic (Q : Exit → Act → World → Prop) : Exit → Act → World → Prop
  | .panic _, _, _ => False
  | e, a, w => Q e a w
theorem noPanic_le {Q : Exit → Act → World → Prop} (e : Exit) (a : Act) (w : World) (h : noPanic Q e a w) : Q e a w := by
  cases e <;> first | exact h | exact h.elim
theorem noPanic_normal {Q : Exit → Act → World → Prop} {a : Act} {w : World} (h : Q .normal a w) : noPanic Q .normal a w := h
def IsMuH (W : World) (m : Nat) : Prop := W.heap[m]? = some (.cells #[.int .i32 1, .int .u32 0] 66 (0, 0))
theorem IsMu.lock {W : World} {m : Nat} (h : IsMu W m) : IsMuH (W.setCell ⟨m, 0, none⟩ (.int .i32 1)) m := by
  have := blk_set h 0 (.int .i32 1)
  exact this
theorem IsMuH.unlock {W : World} {m : Nat} (h : IsMuH W m) : IsMu (W.setCell ⟨m, 0, none⟩ (.int .i32 0)) m := by
  have := blk_set h 0 (.int .i32 0)
  exact this
theorem IsMuH.cell {W : World} {m : Nat} (h : IsMuH W m) : W.cell? ⟨m, 0, none⟩ = some (.int .i32 1) ∧ W.frozen? ⟨m, 0, none⟩ = false := ⟨(blk_cell h 0).trans rfl, blk_frozen h 0⟩
theorem set_far (W : World) (a i : Nat) (v : Value) {k : Nat} (h : k ≠ a) : (W.setCell ⟨a, i, none⟩ v).heap[k]? = W.heap[k]? := Below.heap_setCell W ⟨a, i, none⟩ v k h
theorem set_size (W : World) (p : Addr) (v : Value) : (W.setCell p v).heap.size = W.heap.size := by simp
theorem infoP25 : (Try.prog.info? 25).map (fun i => (i.zero, i.size, i.bytes)) = some (some (.pointer none), 1, 8) := by kernel_rfl
def underSR (g : Nat) (n : Int) (c : Nat) : SR := { newSR n c with above := some g }
def UnderPost (w0 : World) (m g : Nat) (s : SR) (kids : List Nat) (n : Int) (W : World) (e : Ending) (w' : World) : Prop :=
  ∃ v1 : Value, e = .returned (.tuple #[.pointer (some ⟨W.heap.size + 2, 0, none⟩), .int .i64 0]) ∧ IsMu w' m ∧ IsStop w' m g { s with und := v1 } ∧ IsStop w' m (W.heap.size + 2) (underSR g n (W.heap.size + 1)) ∧ IsCh w' (W.heap.size + 1) false ∧
    Kd.R kP 25 w' w0.heap.size (fun _ => True) v1 (kids ++ [W.heap.size + 2]) ∧ Below w0.heap.size w0 w' ∧ (∀ k, k < W.heap.size → k ≠ g → k ≠ m → some k ≠ s.und.ownBlock → w'.heap[k]? = W.heap[k]?) ∧ W.heap.size + 3 ≤ w'.heap.size ∧
    (v1.ownBlock = s.und.ownBlock ∨ ∃ b, v1.ownBlock = some b ∧ W.heap.size + 3 ≤ b)
/-- What stands behind the append to a stop's row. -/
theorem after_append {w0 W5 w7 : World} {m g g' c : Nat} {s s' : SR} {kids : List Nat} {v1 : Value} (hR : Kd.R kP 25 W5 w0.heap.size (fun _ => True) s.und kids) (hgw : W5.grownBy w7 s.und.ownBlock) (hat : v1.ownBlock = s.und.ownBlock ∨ ∃ b, v1.ownBlock = some b ∧ W5.heap.size ≤ b)
    (hm : IsMuH W5 m) (hs : IsStop W5 m g s) (hn : IsStop W5 m g' s') (hc : IsCh W5 c false) :
    IsMuH w7 m ∧ IsStop w7 m g s ∧ IsStop w7 m g' s' ∧ IsCh w7 c false ∧ (∀ k, k < W5.heap.size → some k ≠ s.und.ownBlock → w7.heap[k]? = W5.heap[k]?) ∧ W5.heap.size ≤ w7.heap.size ∧ (v1.ownBlock = s.und.ownBlock ∨ ∃ b, v1.ownBlock = some b ∧ W5.heap.size ≤ b) := by
  have far : ∀ k, k < W5.heap.size → some k ≠ s.und.ownBlock → w7.heap[k]? = W5.heap[k]? := fun k hk hne => hgw.block k hk hne
  have hcne : some c ≠ s.und.ownBlock := by
    intro e
    obtain ⟨cells, h⟩ := Kd.R_typed hR c e.symm
    unfold IsCh chObj at hc
    rw [hc] at h; cases h
  refine ⟨(far m (lt_of hm) (Kd.R_ne hR hm (by decide))).trans hm, (far g (lt_of hs) (Kd.R_ne hR hs (by decide))).trans hs, (far g' (lt_of hn) (Kd.R_ne hR hn (by decide))).trans hn, (far c (lt_of hc) hcne).trans hc, far, hgw.size, hat⟩
set_option maxHeartbeats 2000000 in
set_option maxRecDepth 100000 in
theorem under_run (w0 : World) (m g : Nat) (s : SR) (kids : List Nat) (n : Int) (W : World) (hn : 0 ≤ n) (hm : IsMu W m) (hs : IsStop W m g s) (hw : s.why = 0) (hR : Kd.R kP 25 W w0.heap.size (fun _ => True) s.und kids) (hB : Below w0.heap.size w0 W) (hmb : w0.heap.size ≤ m) (hgb : w0.heap.size ≤ g) (hk : kids.length ≤ 1099511627776) :
    Calls Try.prog 10 #[.pointer (some ⟨g, 0, none⟩), .int .i64 n] W fun e w' => UnderPost w0 m g s kids n W e w' := by
  have HR := Lib.hid hR
  have HB := Lib.hid hB
  clear hR hB
  have HM := Lib.hid hm
  have HS := Lib.hid hs
  clear hm hs
  go_enter_defers Try.func10, Try.ntmps10
  go_wp2_with fail
  refine (new_run n W hn).mono ?_
  rintro e W1 ⟨rfl, rfl⟩
  obtain ⟨W1, hW1⟩ : ∃ W1, W1 = ((W.alloc muObj).alloc (chObj false)).alloc (.cells ((newSR n (W.heap.size + 1)).cells W.heap.size) 70) := ⟨_, rfl⟩
  have HM1 := Lib.hid (show IsMu W1 m by rw [hW1]; exact ((HM.out.alloc _).alloc _).alloc _)
  have HS1 := Lib.hid (show IsStop W1 m g s by rw [hW1]; exact ((HS.out.alloc _).alloc _).alloc _)
  have HN1 := Lib.hid (show IsStop W1 W.heap.size (W.heap.size + 2) (newSR n (W.heap.size + 1)) by rw [hW1]; exact made_stop n W)
  have hmw : m < W.heap.size := lt_of HM.out
  have hgw : g < W.heap.size := lt_of HS.out
  rw [← hW1]
  have c0 : W1.cell? ⟨g, 0, none⟩ = some (.pointer (some ⟨m, 0, none⟩)) := HS1.out.cell 0 rfl
  have hm0 := HM1.out.free
  have d0 : (W1.setCell ⟨m, 0, none⟩ (.int .i32 1)).cell? ⟨g, 0, none⟩ = some (.pointer (some ⟨m, 0, none⟩)) := cell_held HS1.out HM1.out 0 rfl
  have d5 : (W1.setCell ⟨m, 0, none⟩ (.int .i32 1)).cell? ⟨g, 5, none⟩ = some (.int .i64 s.why) := cell_held HS1.out HM1.out 5 rfl
  have HW1 := Lib.hid hW1
  clear hW1
  go_wp2_with (go_at_call 22; refine (lock_free muLib ⟨m, 0, none⟩ _ hm0.1 hm0.2).mono ?_; rintro e w' ⟨rfl, rfl⟩)
  have e0 : (W1.setCell ⟨m, 0, none⟩ (.int .i32 1)).cell? ⟨W.heap.size + 2, 0, none⟩ = some (.pointer (some ⟨W.heap.size, 0, none⟩)) := cell_held HN1.out HM1.out 0 rfl
  have e1 : (W1.setCell ⟨m, 0, none⟩ (.int .i32 1)).cell? ⟨W.heap.size + 2, 1, none⟩ = some (.pointer none) := cell_held HN1.out HM1.out 1 rfl
  have e5 : (W1.setCell ⟨m, 0, none⟩ (.int .i32 1)).cell? ⟨W.heap.size + 2, 5, none⟩ = some (.int .i64 0) := cell_held HN1.out HM1.out 5 rfl
  have z0 : (W1.setCell ⟨m, 0, none⟩ (.int .i32 1)).frozen? ⟨W.heap.size + 2, 0, none⟩ = false := by have := HN1.out.frozen 0; simp [this]
  have z1 : (W1.setCell ⟨m, 0, none⟩ (.int .i32 1)).frozen? ⟨W.heap.size + 2, 1, none⟩ = false := by have := HN1.out.frozen 1; simp [this]
  have z5 : (W1.setCell ⟨m, 0, none⟩ (.int .i32 1)).frozen? ⟨W.heap.size + 2, 5, none⟩ = false := by have := HN1.out.frozen 5; simp [this]
  have hsz1 : W1.heap.size = W.heap.size + 3 := by rw [HW1.out]; simp
  have HSZ1 := Lib.hid hsz1
  have HK1 := Lib.hid (show ∀ k, k < W.heap.size → W1.heap[k]? = W.heap[k]? by
    intro k hk; rw [HW1.out]
    rw [heap_alloc_lt _ _ (by simp; omega), heap_alloc_lt _ _ (by simp; omega), heap_alloc_lt _ _ hk])
  have HC1 := Lib.hid (show IsCh W1 (W.heap.size + 1) false by
    rw [HW1.out]; unfold IsCh
    rw [heap_alloc_lt _ _ (by simp)]
    have := heap_alloc_new (W.alloc muObj) (chObj false)
    simpa using this)
  have HRq := Lib.hid (Kd.R_below HR.out (show Below W.heap.size W W1 by rw [HW1.out]; exact below_alloc (below_alloc (below_alloc (Below.refl _ _) _) _) _))
  have HBq := Lib.hid (show Below w0.heap.size w0 W1 by rw [HW1.out]; exact below_alloc (below_alloc (below_alloc HB.out _) _) _)
  have hgm : g ≠ m := ne_mu HS.out HM.out
  have hnm : W.heap.size + 2 ≠ m := by omega
  have hcm : W.heap.size + 1 ≠ m := by omega
  have HMH2 := Lib.hid HM1.out.lock
  have HS2 := Lib.hid (show IsStop (W1.setCell ⟨m, 0, none⟩ (.int .i32 1)) m g s from (set_far W1 m 0 _ hgm).trans HS1.out)
  have HN2 := Lib.hid (show IsStop (W1.setCell ⟨m, 0, none⟩ (.int .i32 1)) W.heap.size (W.heap.size + 2) (newSR n (W.heap.size + 1)) from (set_far W1 m 0 _ hnm).trans HN1.out)
  have HC2 := Lib.hid (show IsCh (W1.setCell ⟨m, 0, none⟩ (.int .i32 1)) (W.heap.size + 1) false from (set_far W1 m 0 _ hcm).trans HC1.out)
  have HK2 := Lib.hid (show ∀ k, k < W.heap.size → k ≠ m → (W1.setCell ⟨m, 0, none⟩ (.int .i32 1)).heap[k]? = W.heap[k]? from fun k hk hkm => (set_far W1 m 0 _ hkm).trans (HK1.out k hk))
  have HZ2 := Lib.hid (show (W1.setCell ⟨m, 0, none⟩ (.int .i32 1)).heap.size = W.heap.size + 3 by rw [set_size]; exact HSZ1.out)
  have HR2 := Lib.hid (Kd.R_mono (ok' := fun _ => True) (Kd.R_far (Kd.R_types HRq.out (show W1.heap[m]? = some (.cells #[.int .i32 0, .int .u32 0] 66 (0, 0)) from HM1.out) (by intro q hq; simp [kP, Kd.scalar] at hq; subst hq; decide)) (p := ⟨m, 0, none⟩) (fun k hk => hk.2) (.int .i32 1)) (fun _ _ => trivial))
  have HB2 := Lib.hid (below_set (j := 0) (v := .int .i32 1) HBq.out hmb)
  clear hsz1 HSZ1 HK1 HC1 HRq HBq HW1 HM1 HS1 HN1 c0 hm0
  generalize W1.setCell ⟨m, 0, none⟩ (.int .i32 1) = W2 at *
  refine Code.wp_mono noPanic_le ?_
  refine start_ (n := 21) (S := fun w' => w'.cell? ⟨g, 0, none⟩ = some (.pointer (some ⟨m, 0, none⟩)) ∧ w'.cell? ⟨g, 5, none⟩ = some (.int .i64 s.why)) (ds := [14, 17, 20]) #[false, false, false, false, false, false, false, false, false, false, false, false, false, false, false, false, false, false, false, false, false] (by kernel_rfl) rfl rfl ⟨d0, d5⟩ (fun hHeld => ?_)
  replace e0 : W2.drew.cell? ⟨W.heap.size + 2, 0, none⟩ = some (.pointer (some ⟨W.heap.size, 0, none⟩)) := e0
  replace z0 : W2.drew.frozen? ⟨W.heap.size + 2, 0, none⟩ = false := z0
  replace e1 : W2.drew.cell? ⟨W.heap.size + 2, 1, none⟩ = some (.pointer none) := e1
  replace z1 : W2.drew.frozen? ⟨W.heap.size + 2, 1, none⟩ = false := z1
  replace e5 : W2.drew.cell? ⟨W.heap.size + 2, 5, none⟩ = some (.int .i64 0) := e5
  replace z5 : W2.drew.frozen? ⟨W.heap.size + 2, 5, none⟩ = false := z5
  have HMH3 := Lib.hid (show IsMuH W2.drew m from HMH2.out)
  have HS3 := Lib.hid (show IsStop W2.drew m g s from HS2.out)
  have HN3 := Lib.hid (show IsStop W2.drew W.heap.size (W.heap.size + 2) (newSR n (W.heap.size + 1)) from HN2.out)
  have HC3 := Lib.hid (show IsCh W2.drew (W.heap.size + 1) false from HC2.out)
  have HK3 := Lib.hid (show ∀ k, k < W.heap.size → k ≠ m → W2.drew.heap[k]? = W.heap[k]? from HK2.out)
  have HZ3 := Lib.hid (show W2.drew.heap.size = W.heap.size + 3 from HZ2.out)
  have HR3 := Lib.hid (Kd.R_drew HR2.out)
  have HB3 := Lib.hid (below_drew1 HB2.out)
  clear HMH2 HS2 HN2 HC2 HK2 HZ2 HR2 HB2 d0 d5
  generalize W2.drew = W3 at *
  refine pz_ (i := 0) (N := some 25) #[true, false, false, false, false, false, false, false, false, false, false, false, false, false, false, false, false, false, false, false, false] (by kernel_rfl) ?_
  refine pz_ (i := 1) (N := some 26) #[true, true, false, false, false, false, false, false, false, false, false, false, false, false, false, false, false, false, false, false, false] (by kernel_rfl) ?_
  refine pz_ (i := 2) (N := some 27) #[true, true, true, false, false, false, false, false, false, false, false, false, false, false, false, false, false, false, false, false, false] (by kernel_rfl) ?_
  refine pz_ (i := 3) (N := some 28) #[true, true, true, true, false, false, false, false, false, false, false, false, false, false, false, false, false, false, false, false, false] (by kernel_rfl) ?_
  refine pz_ (i := 4) (N := some 29) #[true, true, true, true, true, false, false, false, false, false, false, false, false, false, false, false, false, false, false, false, false] (by kernel_rfl) ?_
  refine pz_ (i := 5) (N := some 30) #[true, true, true, true, true, true, false, false, false, false, false, false, false, false, false, false, false, false, false, false, false] (by kernel_rfl) ?_
  refine tz_ (i := 6) (N := some 31) #[true, true, true, true, true, true, true, false, false, false, false, false, false, false, false, false, false, false, false, false, false] (by kernel_rfl) hHeld ?_
  refine pz_ (i := 7) (N := some 32) #[true, true, true, true, true, true, true, true, false, false, false, false, false, false, false, false, false, false, false, false, false] (by kernel_rfl) ?_
  refine pz_ (i := 8) (N := some 33) #[true, true, true, true, true, true, true, true, true, false, false, false, false, false, false, false, false, false, false, false, false] (by kernel_rfl) ?_
  refine pz_ (i := 9) (N := some 34) #[true, true, true, true, true, true, true, true, true, true, false, false, false, false, false, false, false, false, false, false, false] (by kernel_rfl) ?_
  refine pz_ (i := 10) (N := some 35) #[true, true, true, true, true, true, true, true, true, true, true, false, false, false, false, false, false, false, false, false, false] (by kernel_rfl) ?_
  refine tz_ (i := 11) (N := some 36) #[true, true, true, true, true, true, true, true, true, true, true, true, false, false, false, false, false, false, false, false, false] (by kernel_rfl) hHeld ?_
  refine pz_ (i := 12) (N := some 37) #[true, true, true, true, true, true, true, true, true, true, true, true, true, false, false, false, false, false, false, false, false] (by kernel_rfl) ?_
  refine pz_ (i := 13) (N := some 38) #[true, true, true, true, true, true, true, true, true, true, true, true, true, true, false, false, false, false, false, false, false] (by kernel_rfl) ?_
  refine last_ (i := 14) (N := none) #[true, true, true, true, true, true, true, true, true, true, true, true, true, true, true, false, false, false, false, false, false] rfl rfl (by kernel_rfl) (by decide) (fun K hK => ?_)
  refine skip_step (by rfl) rfl (w1 := (W3.setCell ⟨W.heap.size + 2, 0, none⟩ (.pointer (some ⟨m, 0, none⟩)))) ?hr14 ?_
  case hr14 => first | (go_simp; done) | (go_simp; rfl)
  refine hK.out _ _ ?_
  clear hK K
  refine pz_ (i := 15) (N := some 39) #[true, true, true, true, true, true, true, true, true, true, true, true, true, true, true, true, false, false, false, false, false] (by kernel_rfl) ?_
  refine pz_ (i := 16) (N := some 40) #[true, true, true, true, true, true, true, true, true, true, true, true, true, true, true, true, true, false, false, false, false] (by kernel_rfl) ?_
  refine last_ (i := 17) (N := none) #[true, true, true, true, true, true, true, true, true, true, true, true, true, true, true, true, true, true, false, false, false] rfl rfl (by kernel_rfl) (by decide) (fun K hK => ?_)
  refine skip_step (by rfl) rfl (w1 := ((W3.setCell ⟨W.heap.size + 2, 0, none⟩ (.pointer (some ⟨m, 0, none⟩))).setCell ⟨W.heap.size + 2, 1, none⟩ (.pointer (some ⟨g, 0, none⟩)))) ?hr17 ?_
  case hr17 => first | (go_simp; done) | (go_simp; rfl)
  refine hK.out _ _ ?_
  clear hK K
  refine pz_ (i := 18) (N := some 41) #[true, true, true, true, true, true, true, true, true, true, true, true, true, true, true, true, true, true, true, false, false] (by kernel_rfl) ?_
  refine pz_ (i := 19) (N := some 42) #[true, true, true, true, true, true, true, true, true, true, true, true, true, true, true, true, true, true, true, true, false] (by kernel_rfl) ?_
  refine last_ (i := 20) (N := none) #[true, true, true, true, true, true, true, true, true, true, true, true, true, true, true, true, true, true, true, true, true] rfl rfl (by kernel_rfl) (by decide) (fun K hK => ?_)
  refine skip_step (by rfl) rfl (w1 := (((W3.setCell ⟨W.heap.size + 2, 0, none⟩ (.pointer (some ⟨m, 0, none⟩))).setCell ⟨W.heap.size + 2, 1, none⟩ (.pointer (some ⟨g, 0, none⟩))).setCell ⟨W.heap.size + 2, 5, none⟩ (.int .i64 s.why))) ?hr20 ?_
  case hr20 => first | (go_simp; done) | (go_simp; rfl)
  refine hK.out _ _ ?_
  clear hK K
  refine done_ (by kernel_rfl) ?_
  refine noPanic_normal ?_
  clear hHeld e0 e1 e5 z0 z1 z5
  have far4 : ∀ k, k ≠ W.heap.size + 2 → (((W3.setCell ⟨W.heap.size + 2, 0, none⟩ (.pointer (some ⟨m, 0, none⟩))).setCell ⟨W.heap.size + 2, 1, none⟩ (.pointer (some ⟨g, 0, none⟩))).setCell ⟨W.heap.size + 2, 5, none⟩ (.int .i64 s.why)).heap[k]? = W3.heap[k]? := fun k hk => by
    rw [set_far _ _ _ _ hk, set_far _ _ _ _ hk, set_far _ _ _ _ hk]
  have hgn : g ≠ W.heap.size + 2 := by omega
  have HMH4 := Lib.hid (show IsMuH (((W3.setCell ⟨W.heap.size + 2, 0, none⟩ (.pointer (some ⟨m, 0, none⟩))).setCell ⟨W.heap.size + 2, 1, none⟩ (.pointer (some ⟨g, 0, none⟩))).setCell ⟨W.heap.size + 2, 5, none⟩ (.int .i64 s.why)) m from (far4 m (by omega)).trans HMH3.out)
  have HS4 := Lib.hid (show IsStop (((W3.setCell ⟨W.heap.size + 2, 0, none⟩ (.pointer (some ⟨m, 0, none⟩))).setCell ⟨W.heap.size + 2, 1, none⟩ (.pointer (some ⟨g, 0, none⟩))).setCell ⟨W.heap.size + 2, 5, none⟩ (.int .i64 s.why)) m g s from (far4 g hgn).trans HS3.out)
  have HC4 := Lib.hid (show IsCh (((W3.setCell ⟨W.heap.size + 2, 0, none⟩ (.pointer (some ⟨m, 0, none⟩))).setCell ⟨W.heap.size + 2, 1, none⟩ (.pointer (some ⟨g, 0, none⟩))).setCell ⟨W.heap.size + 2, 5, none⟩ (.int .i64 s.why)) (W.heap.size + 1) false from (far4 _ (by omega)).trans HC3.out)
  have HN4 := Lib.hid (show IsStop (((W3.setCell ⟨W.heap.size + 2, 0, none⟩ (.pointer (some ⟨m, 0, none⟩))).setCell ⟨W.heap.size + 2, 1, none⟩ (.pointer (some ⟨g, 0, none⟩))).setCell ⟨W.heap.size + 2, 5, none⟩ (.int .i64 s.why)) m (W.heap.size + 2) (underSR g n (W.heap.size + 1)) by
    have := blk_set (blk_set (blk_set HN3.out 0 (.pointer (some ⟨m, 0, none⟩))) 1 (.pointer (some ⟨g, 0, none⟩))) 5 (.int .i64 s.why)
    rw [hw] at this ⊢
    exact this)
  have HK4 := Lib.hid (show ∀ k, k < W.heap.size → k ≠ m → (((W3.setCell ⟨W.heap.size + 2, 0, none⟩ (.pointer (some ⟨m, 0, none⟩))).setCell ⟨W.heap.size + 2, 1, none⟩ (.pointer (some ⟨g, 0, none⟩))).setCell ⟨W.heap.size + 2, 5, none⟩ (.int .i64 s.why)).heap[k]? = W.heap[k]? from fun k hk hkm => (far4 k (by omega)).trans (HK3.out k hk hkm))
  have HZ4 := Lib.hid (show (((W3.setCell ⟨W.heap.size + 2, 0, none⟩ (.pointer (some ⟨m, 0, none⟩))).setCell ⟨W.heap.size + 2, 1, none⟩ (.pointer (some ⟨g, 0, none⟩))).setCell ⟨W.heap.size + 2, 5, none⟩ (.int .i64 s.why)).heap.size = W.heap.size + 3 by rw [set_size, set_size, set_size]; exact HZ3.out)
  have HR4 := Lib.hid (show Kd.R kP 25 (((W3.setCell ⟨W.heap.size + 2, 0, none⟩ (.pointer (some ⟨m, 0, none⟩))).setCell ⟨W.heap.size + 2, 1, none⟩ (.pointer (some ⟨g, 0, none⟩))).setCell ⟨W.heap.size + 2, 5, none⟩ (.int .i64 s.why)) w0.heap.size (fun _ => True) s.und kids from Kd.R_mono (Kd.R_far (Kd.R_far (Kd.R_far (Kd.R_types HR3.out (show W3.heap[W.heap.size + 2]? = some (.cells _ 70 (0, 0)) from HN3.out) (by intro q hq; simp [kP, Kd.scalar] at hq; subst hq; decide)) (p := ⟨W.heap.size + 2, 0, none⟩) (fun k hk => hk.2) _) (p := ⟨W.heap.size + 2, 1, none⟩) (fun k hk => hk.2) _) (p := ⟨W.heap.size + 2, 5, none⟩) (fun k hk => hk.2) _) (fun _ _ => trivial))
  have hwb : w0.heap.size ≤ W.heap.size + 2 := by omega
  have HB4 := Lib.hid (show Below w0.heap.size w0 (((W3.setCell ⟨W.heap.size + 2, 0, none⟩ (.pointer (some ⟨m, 0, none⟩))).setCell ⟨W.heap.size + 2, 1, none⟩ (.pointer (some ⟨g, 0, none⟩))).setCell ⟨W.heap.size + 2, 5, none⟩ (.int .i64 s.why)) from below_set (below_set (below_set HB3.out hwb) hwb) hwb)
  clear HMH3 HS3 HC3 HN3 HK3 HZ3 HR3 HB3 far4
  generalize (((W3.setCell ⟨W.heap.size + 2, 0, none⟩ (.pointer (some ⟨m, 0, none⟩))).setCell ⟨W.heap.size + 2, 1, none⟩ (.pointer (some ⟨g, 0, none⟩))).setCell ⟨W.heap.size + 2, 5, none⟩ (.int .i64 s.why)) = W5 at *
  have n5 : W5.cell? ⟨W.heap.size + 2, 5, none⟩ = some (.int .i64 0) := HN4.out.cell 5 rfl
  have c2 : W5.cell? ⟨g, 2, none⟩ = some s.und := HS4.out.cell 2 rfl
  go_wp2_with (at_builtin; refine Kd.R_append kP (w0 := w0) w0.heap.size rfl (.tmp 56) (.tmp 58) 24 25 (.pointer none) 8 rfl Try.underlying24 infoP25 rfl (by decide) (by omega) s.und kids (W.heap.size + 2) [.pointer (some ⟨W.heap.size + 2, 0, none⟩)] (fun _ => True) (fun _ => False) rfl rfl ?aP (fun _ hk => hk.elim) ?aF ?aO ?aB ?aS ?aL ?_; (case aP => exact rfl); (case aF => exact fun _ _ => trivial); (case aO => exact HR4.out); (case aB => exact HB4.out); (case aS => exact HB4.out.size); (case aL => omega); intro v1 w7 hro hb hgw hat; obtain ⟨Av, cv, ev⟩ := Kd.R_slice hro; subst ev; have hl7 := Lib.hid (after_append HR4.out hgw hat HMH4.out HS4.out HN4.out HC4.out); have HR7 := Lib.hid hro; have HB7 := Lib.hid hb; have c7 := hl7.out.2.1.cell 2 rfl; have f7 := hl7.out.2.1.frozen 2; clear hro hb hgw hat)
  obtain ⟨hm7, hs7, hn7, hc7, far7, hz7, hat7⟩ := hl7.out
  have e7 : (kids ++ [W.heap.size + 2]).length = kids.length + 1 := by simp
  have hR7 := HR7.out
  rw [e7] at hR7 hat7
  have hm8 : IsMuH (w7.setCell ⟨g, 2, none⟩ (.slice Av (kids.length + 1) cv)) m := (set_far w7 g 2 _ (Ne.symm hgm)).trans hm7
  have hs8 := blk_set hs7 2 (.slice Av (kids.length + 1) cv)
  refine leaves_cons (f := 23) (args := #[.pointer (some ⟨m, 0, none⟩)]) (by simp) (by simp [go_sem]) ?_
  refine (unlock_deferred muLib ⟨m, 0, none⟩ .returning _ hm8.cell.1 hm8.cell.2).mono ?_
  rintro e u' w'' ⟨rfl, rfl, rfl⟩
  refine ⟨_, results_tmp2 rfl _ _ _, .slice Av (kids.length + 1) cv, rfl, hm8.unlock, ?_, ?_, ?_, ?_, ?_, ?_, ?_, ?_⟩
  · exact (set_far _ m 0 _ hgm).trans hs8
  · exact (set_far _ m 0 _ hnm).trans ((set_far w7 g 2 _ (Ne.symm hgn)).trans hn7)
  · exact (set_far _ m 0 _ hcm).trans ((set_far w7 g 2 _ (by omega)).trans hc7)
  · have r8 := Kd.R_far (Kd.R_types hR7 (show w7.heap[g]? = some (.cells _ 70 (0, 0)) from hs7) (by intro q hq; simp [kP, Kd.scalar] at hq; subst hq; decide)) (p := ⟨g, 2, none⟩) (fun k hk => hk.2) (.slice Av (kids.length + 1) cv)
    exact Kd.R_mono (Kd.R_far (Kd.R_types r8 (show (w7.setCell ⟨g, 2, none⟩ (.slice Av (kids.length + 1) cv)).heap[m]? = some (.cells #[.int .i32 1, .int .u32 0] 66 (0, 0)) from hm8) (by intro q hq; simp [kP, Kd.scalar] at hq; subst hq; decide)) (p := ⟨m, 0, none⟩) (fun k hk => hk.2) (.int .i32 0)) (fun _ _ => trivial)
  · exact below_set (below_set HB7.out hgb) hmb
  · intro k h1 h2 h3 h4
    have hz := HZ4.out
    exact (set_far _ m 0 _ h3).trans ((set_far w7 g 2 _ h2).trans ((far7 k (by omega) h4).trans (HK4.out k h1 h3)))
  · have hz := HZ4.out
    rw [set_size, set_size]; omega
  · have hz := HZ4.out
    rw [hz] at hat7
    exact hat7
end Go.Proofs.Ytofbnoiecpmjnaa.Pr
