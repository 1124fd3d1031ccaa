/- After's walk. -/
import Derived.Test.YtofbnoiecpmjnaaKh
import Derived.Test.YtofbnoiecpmjnaaSh
import Derived.KernelRfl
import Derived.StillTailTactics
namespace Go.Proofs.Ytofbnoiecpmjnaa.Pr
open Go.RowKit Go.Proofs.YtofbnoiecpmjnaaW.PrintWords Go.Proofs.YtofbnoiecpmjnaaW.PrintLast Go.Proofs.YtofbnoiecpmjnaaW.PrintMore Go.MuLone
open Go.Lib
set_option linter.unusedVariables false
set_option linter.unusedSimpArgs false
variable {b : Int} {w0 W : World} {m : Nat} {st : List PL} {up : List Nat} {Y : List Int} {cv : List Value} {Cs : List (List Nat)} {v : VB} {y : Int} {D : List CD} {S : Nat → Int} {M : List Int}
theorem fne57 : ∀ (fn : Fn) (a c : Array Value) (W : World), (Go.binOp BinOp.eql 57 (Value.func fn a c) Value.nilFunc).run Try.prog W = .ok (.bool false) W := fun _ _ _ _ => by kernel_rfl
theorem fne22 : ∀ (fn : Fn) (a c : Array Value) (W : World), (Go.binOp BinOp.eql 22 (Value.func fn a c) Value.nilFunc).run Try.prog W = .ok (.bool false) W := fun _ _ _ _ => by kernel_rfl
def AfterPost (w0 W : World) (m : Nat) (st : List PL) (up : List Nat) (Y : List Int) (Cs : List (List Nat)) (v : VB) (y : Int) (D : List CD) (S : Nat → Int) (M : List Int) (ib k : Nat) (e : Ending) (w' : World) : Prop :=
  ∃ (sb cb q : Nat) (cv' : List Value), e = .returned (.func (.func 38) #[] #[ptrOf sb, ptrOf cb]) ∧ HC 0 w0 w' m st up Y cv' (Cs.set k (Cs.getD k [] ++ [q])) v y (D ++ [⟨q, ib, sb, cb, k⟩]) S M ∧ LawKept v W w' ∧ W.heap.size ≤ w'.heap.size ∧ W.heap.size ≤ q
/-- The function's block and its box are laid. -/
theorem after_laid {w0 W2 : World} {A : Array Value} (hB : Below w0.heap.size w0 W2) :
    Below w0.heap.size w0 ((W2.alloc (.cells A 89)).alloc (.cells #[.pointer (some ⟨W2.heap.size, 0, none⟩)] 87)) ∧
    (∀ k, k < W2.heap.size → ((W2.alloc (.cells A 89)).alloc (.cells #[.pointer (some ⟨W2.heap.size, 0, none⟩)] 87)).heap[k]? = W2.heap[k]?) ∧
    ((W2.alloc (.cells A 89)).alloc (.cells #[.pointer (some ⟨W2.heap.size, 0, none⟩)] 87)).heap[W2.heap.size]? = some (.cells A 89 (0, 0)) ∧
    ((W2.alloc (.cells A 89)).alloc (.cells #[.pointer (some ⟨W2.heap.size, 0, none⟩)] 87)).heap[W2.heap.size + 1]? = some (.cells #[.pointer (some ⟨W2.heap.size, 0, none⟩)] 87 (0, 0)) ∧
    ((W2.alloc (.cells A 89)).alloc (.cells #[.pointer (some ⟨W2.heap.size, 0, none⟩)] 87)).heap.size = W2.heap.size + 2 := by
  have hz := hB.size
  have s1 : (W2.alloc (.cells A 89)).heap.size = W2.heap.size + 1 := by simp
  have n1 := heap_alloc_new W2 (.cells A 89)
  have n2 := heap_alloc_new (W2.alloc (.cells A 89)) (.cells #[.pointer (some ⟨W2.heap.size, 0, none⟩)] 87)
  rw [s1] at n2
  refine ⟨below_alloc (below_alloc hB _) _, fun k hk => ?_, ?_, ?_, ?_⟩
  · rw [heap_alloc_lt _ _ (by rw [s1]; omega), heap_alloc_lt _ _ hk]
  · rw [heap_alloc_lt _ _ (by rw [s1]; omega)]
    exact n1
  · exact n2
  · simp
theorem TC.drew (h : TC b w0 W m st up Y cv Cs) : TC b w0 W.drew m st up Y cv Cs :=
  ⟨h.len, h.lenY, h.lenV, h.lenC, h.mu, h.mb, below_drew1 h.below, fun i x hx => by
    obtain ⟨q1, q2, q3, q4, q5, q6⟩ := h.at_ i x hx
    exact ⟨q1, q2, q3, q4, Kd.R_drew q5, Kd.R_drew q6⟩, h.apart, h.ups, h.rowsC, h.dead⟩
theorem HC.drew (h : HC b w0 W m st up Y cv Cs v y D S M) : HC b w0 W.drew m st up Y cv Cs v y D S M :=
  ⟨h.tc.drew, h.tbf, h.wbf, h.ybf, h.wbb, Kd.R_drew h.rowT, h.lenM, h.calls, h.qs, h.offC, h.lenD⟩
set_option maxHeartbeats 2000000 in
set_option maxRecDepth 100000 in
theorem after_run (h : HC 0 w0 W m st up Y cv Cs v y D S M) (k : Nat) (hk : k < st.length) (hY : Y.getD k 0 = 0) (ib : Nat) (hib : W.heap[ib]? = some (.cells #[.int .i64 (D.length : Int)] 3 (0, 0))) (hit : ib ≠ v.tr) (hS : S D.length = 0) (hlt : D.length < v.a) (hroom : (Cs.getD k []).length + 1 ≤ 17592186044416) :
    Calls Try.prog 20 #[.pointer (some ⟨gOf st k, 0, none⟩), cloV v ib] W fun e w' => AfterPost w0 W m st up Y Cs v y D S M ib k e w' := by
  obtain ⟨x, hx⟩ : ∃ x, st[k]? = some x := ⟨st[k], by simp⟩
  have hg : gOf st k = x.g := gOf_eq hx
  have hs := (h.tc.at_ k x hx).1
  rw [← hg] at hs
  obtain ⟨g, hgg⟩ : ∃ g, g = gOf st k := ⟨_, rfl⟩
  rw [← hgg] at hs hg ⊢
  obtain ⟨Al, cl, hl⟩ := Kd.R_slice (h.tc.at_ k x hx).2.2.2.2.2
  -- the stop's box
  have hz := h.tc.below.size
  have b1 : Below W.heap.size W (W.alloc (.cells #[.pointer (some ⟨g, 0, none⟩)] 25)) := below_alloc (Below.refl _ _) _
  have h1 : HC 0 w0 (W.alloc (.cells #[.pointer (some ⟨g, 0, none⟩)] 25)) m st up Y cv Cs v y D S M := h.more (below_alloc h.tc.below _) b1.block
  have hsz1 : (W.alloc (.cells #[.pointer (some ⟨g, 0, none⟩)] 25)).heap.size = W.heap.size + 1 := by simp
  have hnew1 : (W.alloc (.cells #[.pointer (some ⟨g, 0, none⟩)] 25)).heap[W.heap.size]? = some (.cells #[.pointer (some ⟨g, 0, none⟩)] 25 (0, 0)) := heap_alloc_new W _
  have hm1 : IsMu (W.alloc (.cells #[.pointer (some ⟨g, 0, none⟩)] 25)) m := h1.tc.mu
  have HMU0 := Lib.hid h.tc.mu
  have HST0 := Lib.hid hs
  have HROW0 := Lib.hid (h.tc.at_ k x hx).2.2.2.2.2
  have H1 := Lib.hid h1
  have HX := Lib.hid hx
  have HG := Lib.hid hg
  have HGG := Lib.hid hgg
  have HIB := Lib.hid hib
  have HS := Lib.hid hS
  have HY := Lib.hid hY
  have HL := Lib.hid hl
  have HB1 := Lib.hid b1
  have HSZ1 := Lib.hid hsz1
  have HNEW1 := Lib.hid hnew1
  clear h h1 hs hx hg hgg hib hS hY hl b1 hsz1 hnew1 hz
  generalize hW1 : W.alloc (.cells #[.pointer (some ⟨g, 0, none⟩)] 25) = W1 at *
  have HW1 := Lib.hid hW1
  have hm0 := hm1.free
  have hsb0 : W1.cell? ⟨W.heap.size, 0, none⟩ = some (.pointer (some ⟨g, 0, none⟩)) := blk_cell HNEW1.out 0
  have hs1 := (H1.out.tc.at_ k x HX.out).1
  rw [← HG.out] at hs1
  have c0 : W1.cell? ⟨g, 0, none⟩ = some (.pointer (some ⟨m, 0, none⟩)) := hs1.cell 0 rfl
  have HM1 := Lib.hid hm1
  have h2 : HC 1 w0 (W1.setCell ⟨m, 0, none⟩ (.int .i32 1)) m st up Y cv Cs v y D S M := H1.out.muset
  have hs2 := (h2.tc.at_ k x HX.out).1
  rw [← HG.out] at hs2
  have hml : W.heap.size ≠ m := by rintro e; have := H1.out.tc.mu; rw [← e, HNEW1.out] at this; cases this
  have hnew2 : (W1.setCell ⟨m, 0, none⟩ (.int .i32 1)).heap[W.heap.size]? = some (.cells #[.pointer (some ⟨g, 0, none⟩)] 25 (0, 0)) := (set_far W1 m 0 _ hml).trans HNEW1.out
  have hsb2 : (W1.setCell ⟨m, 0, none⟩ (.int .i32 1)).cell? ⟨W.heap.size, 0, none⟩ = some (.pointer (some ⟨g, 0, none⟩)) := blk_cell hnew2 0
  have d5 : (W1.setCell ⟨m, 0, none⟩ (.int .i32 1)).cell? ⟨g, 5, none⟩ = some (.int .i64 0) := by rw [← HY.out]; exact hs2.cell 5 rfl
  have HK2 := Lib.hid (show ∀ i, i < W.heap.size → i ≠ m → (W1.setCell ⟨m, 0, none⟩ (.int .i32 1)).heap[i]? = W.heap[i]? from fun i hi him => (set_far W1 m 0 _ him).trans (HB1.out.block i hi))
  have HSZ2 := Lib.hid (show (W1.setCell ⟨m, 0, none⟩ (.int .i32 1)).heap.size = W.heap.size + 1 by rw [set_size]; exact HSZ1.out)
  have H2 := Lib.hid h2
  have HNEW2 := Lib.hid hnew2
  have hf := fne57
  clear h2 hs1 hs2 hnew2 hm1 H1
  have hsb0' := hsb0
  have c0' := c0
  rw [← hW1] at hsb0' c0'
  unfold cloV ptrOf
  clear hW1
  go_enter Try.func20, Try.ntmps20
  go_wp2_with fail
  rw [HW1.out]
  clear hsb0' c0'
  go_wp2_with (go_at_call 22; refine (lock_free muLib ⟨m, 0, none⟩ _ hm0.1 hm0.2).mono ?_; rintro e w' ⟨rfl, rfl⟩)
  have hf2 := fne22
  have hs2 := (H2.out.tc.at_ k x HX.out).1
  rw [← HG.out] at hs2
  have c7 : (W1.setCell ⟨m, 0, none⟩ (.int .i32 1)).cell? ⟨g, 7, none⟩ = some (.slice Al (Cs.getD k []).length cl) := (hs2.cell 7 rfl).trans (congrArg some HL.out)
  have HS2 := Lib.hid hs2
  clear hs2
  obtain ⟨W2, hW2⟩ : ∃ W2, W2 = W1.setCell ⟨m, 0, none⟩ (.int .i32 1) := ⟨_, rfl⟩
  have hq1 : W2.heap.size = W1.heap.size := by rw [hW2, set_size]
  rw [← hW2] at H2 HSZ2 HNEW2 HK2 HS2 hsb2 c7 d5 ⊢
  rw [← hq1]
  clear hW2
  obtain ⟨q, hq⟩ : ∃ q, q = W2.heap.size := ⟨_, rfl⟩
  have HQ := Lib.hid hq
  have HF4 := Lib.hid (after_laid (W2 := W2) (A := #[cloV v ib, .int .i64 0]) H2.out.tc.below)
  unfold cloV ptrOf at HF4
  have hroomC := hroom
  generalize hW4 : ((W2.alloc (.cells #[.func (.func 21) #[] #[.pointer (some ⟨v.tb, 0, none⟩), .pointer (some ⟨ib, 0, none⟩), .pointer (some ⟨v.wb, 0, none⟩), .pointer (some ⟨v.yb, 0, none⟩)], .int .i64 0] 89)).alloc (.cells #[.pointer (some ⟨W2.heap.size, 0, none⟩)] 87)) = W4 at *
  clear hW4
  rw [← hq] at HF4 ⊢
  obtain ⟨l1, l2, l3, l4, l5⟩ := HF4.out
  have hiblt : W.heap[ib]? = some (.cells #[.int .i64 (D.length : Int)] 3 (0, 0)) := HIB.out
  have hib2 : W2.heap[ib]? = some (.cells #[.int .i64 (D.length : Int)] 3 (0, 0)) := (HK2.out ib (lt_of hiblt) (by rintro rfl; have h1 := HK2.out; have := H2.out.tc.mu; have h3 := HMU0.out; rw [hiblt] at h3; cases h3)).trans hiblt
  have h4 : HC 1 w0 W4 m st up Y cv Cs v y (D ++ [⟨q, ib, W.heap.size, q + 1, k⟩]) S M := H2.out.add l1 (fun i hi => l2 i (by rw [hq]; exact hi)) hk l3 (by rw [← HGG.out]; exact (l2 W.heap.size (by have := HSZ2.out; omega)).trans HNEW2.out) l4 (by omega) (by omega) hib2 hit HS.out hlt
  have hsb4 : W4.cell? ⟨W.heap.size, 0, none⟩ = some (.pointer (some ⟨g, 0, none⟩)) := blk_cell ((l2 W.heap.size (by have := HSZ2.out; omega)).trans HNEW2.out) 0
  have hcb4 : W4.cell? ⟨q + 1, 0, none⟩ = some (.pointer (some ⟨q, 0, none⟩)) := blk_cell l4 0
  have hs4 := (h4.tc.at_ k x HX.out).1
  rw [← HG.out] at hs4
  have hc4 : W4.cell? ⟨g, 7, none⟩ = some (.slice Al (Cs.getD k []).length cl) := (hs4.cell 7 rfl).trans (congrArg some HL.out)
  have H4 := Lib.hid h4.drew
  have HK4 := Lib.hid (show ∀ i, i < W.heap.size → i ≠ m → W4.drew.heap[i]? = W.heap[i]? from fun i hi him => (l2 i (by have := HSZ2.out; omega)).trans (HK2.out i hi him))
  have HZ4 := Lib.hid (show W4.drew.heap.size = W.heap.size + 3 from by show W4.heap.size = _; have := HSZ2.out; omega)
  have hqw : q = W.heap.size + 1 := by have := HSZ2.out; omega
  have HQW := Lib.hid hqw
  clear hqw h4 hs4 l1 l2 l3 l4 l5 HF4 hiblt hib2 H2 HSZ2 HNEW2 HK2 HS2 hsb2 c7 d5 hq
  refine start_ (n := 11) (S := fun w' => w'.cell? ⟨W.heap.size, 0, none⟩ = some (.pointer (some ⟨g, 0, none⟩)) ∧ w'.cell? ⟨g, 7, none⟩ = some (.slice Al (Cs.getD k []).length cl) ∧ w'.cell? ⟨q + 1, 0, none⟩ = some (.pointer (some ⟨q, 0, none⟩))) (ds := [10]) #[false, false, false, false, false, false, false, false, false, false, false] (by kernel_rfl) rfl rfl ⟨hsb4, hc4, hcb4⟩ (fun hHeld => ?_)
  clear hsb4 hc4 hcb4
  generalize W4.drew = W5 at *
  refine tz_ (i := 0) (N := some 34) #[true, false, false, false, false, false, false, false, false, false, false] (by kernel_rfl) hHeld ?_
  refine tz_ (i := 1) (N := some 35) #[true, true, false, false, false, false, false, false, false, false, false] (by kernel_rfl) hHeld ?_
  refine pz_ (i := 2) (N := some 36) #[true, true, true, false, false, false, false, false, false, false, false] (by kernel_rfl) ?_
  refine pz_ (i := 3) (N := some 37) #[true, true, true, true, false, false, false, false, false, false, false] (by kernel_rfl) ?_
  refine tz_ (i := 4) (N := some 38) #[true, true, true, true, true, false, false, false, false, false, false] (by kernel_rfl) hHeld ?_
  refine tz_ (i := 5) (N := some 39) #[true, true, true, true, true, true, false, false, false, false, false] (by kernel_rfl) hHeld ?_
  refine one_ (i := 6) (N := some 40) #[true, true, true, true, true, true, true, false, false, false, false] rfl rfl (by kernel_rfl) (by decide) (fun K hK => ?_)
  refine Kd.R_lit_step kP (w0 := w0) w0.heap.size 87 ?hg (N := 40) ?hd (xs := ([q] : List Nat)) (inner := [.pointer (some ⟨q, 0, none⟩)]) (ok := T1) (okp := T1) ?hr ?hp (fun _ hk => hk) trivial H4.out.tc.below H4.out.tc.below.size (by simp) ?_; (case hd => rfl); (case hg => rfl); (case hr => first | (go_simp; done) | (go_simp; rfl)); (case hp => exact ⟨rfl, fun j p hj => by cases j with | zero => (simp at hj; subst hj; rfl) | succ j => simp at hj⟩)
  intro v9 w9 hr9 hb9 hg9 hnew9
  have hS : w9.cell? ⟨W.heap.size, 0, none⟩ = some (.pointer (some ⟨g, 0, none⟩)) ∧ w9.cell? ⟨g, 7, none⟩ = some (.slice Al (Cs.getD k []).length cl) ∧ w9.cell? ⟨q + 1, 0, none⟩ = some (.pointer (some ⟨q, 0, none⟩)) := ⟨cell_grown hg9 hHeld.1 (by simp), cell_grown hg9 hHeld.2.1 (by simp), cell_grown hg9 hHeld.2.2 (by simp)⟩
  have h9 : HC 1 w0 w9 m st up Y cv Cs v y (D ++ [⟨q, ib, W.heap.size, q + 1, k⟩]) S M := H4.out.more hb9 (fun i hi => hg9.block i hi (by simp))
  have HK9 := Lib.hid (show ∀ i, i < W.heap.size → i ≠ m → w9.heap[i]? = W.heap[i]? from fun i hi him => (hg9.block i (by have := HZ4.out; omega) (by simp)).trans (HK4.out i hi him))
  have HZ9 := Lib.hid (show W.heap.size + 3 ≤ w9.heap.size from by have := HZ4.out; have := hg9.size; omega)
  have hrow := (h9.tc.at_ k x HX.out).2.2.2.2.2
  rw [HL.out] at hrow
  obtain ⟨A9, c9, e9⟩ := Kd.R_slice hr9
  subst e9
  have HR9 := Lib.hid hr9
  have HROW := Lib.hid hrow
  have H9 := Lib.hid h9
  clear hr9 hb9 hg9 hnew9 hrow h9 H4 HK4 HZ4
  refine hK.out _ _ hS (fun hHeld => ?_)
  clear hK K
  refine norm_ (a' := ?_) ?_ ?_
  rotate_left
  · show Act.put _ (some 40) _ = _
    simp only [Act.put, List.setIfInBounds_toArray, List.set_cons_zero, List.set_cons_succ, i64_w, i32_w]
    rfl
  refine one_ (i := 7) (N := some 41) #[true, true, true, true, true, true, true, true, false, false, false] rfl rfl (by kernel_rfl) (by decide) (fun K hK => ?_)
  refine Kd.R_append_rows_step kP (Rr := kP.K w9) (w0 := w0) w0.heap.size (by rfl) (.tmp 38) (.tmp 40) 68 87 (.pointer none) 8 rfl Try.underlying68 infoP87 rfl (by decide) (by omega) (.slice Al (Cs.getD k []).length cl) (Cs.getD k []) [q] A9 _ c9 T1 (fun _ => False) rfl rfl ?aO ?aR (fun _ _ h => h) (fun _ h => h.elim) ?aF ?aB ?aS ?aL ?_
  (case aO => exact HROW.out)
  (case aR => exact (Kd.R_reads' HR9.out).2.2)
  (case aF => exact fun _ _ => trivial)
  (case aB => exact H9.out.tc.below)
  (case aS => exact H9.out.tc.below.size)
  (case aL => simp only [List.length_singleton]; omega)
  intro v10 w10 hr10 hb10 hg10 hat10
  have hs9 := (H9.out.tc.at_ k x HX.out).1
  rw [← HG.out] at hs9
  have hs10 : IsStopC w10 m g (srT st up Y k x) (cv.getD k nilV) := (hg10.block g (lt_of hs9) (Kd.R_ne HROW.out hs9 (by decide))).trans hs9
  have c10 : w10.cell? ⟨g, 7, none⟩ = some (.slice Al (Cs.getD k []).length cl) := (hs10.cell 7 rfl).trans (congrArg some HL.out)
  have f10 := hs10.frozen 7
  have HP10 := Lib.hid (show HC 1 w0 (w10.setCell ⟨g, 7, none⟩ v10) m st up Y (cv.set k v10) (Cs.set k (Cs.getD k [] ++ [q])) v y (D ++ [⟨q, ib, W.heap.size, q + 1, k⟩]) S M by have h := H9.out.put HX.out HY.out (v1 := v10) (q := q) hr10 hb10 (by rw [HL.out]; exact hg10) (by rw [HL.out]; exact hat10); rw [← HG.out] at h; exact h)
  have HK10 := Lib.hid (show ∀ i, i < W.heap.size → i ≠ m → i ≠ g → some i ≠ (cv.getD k nilV).ownBlock → (w10.setCell ⟨g, 7, none⟩ v10).heap[i]? = W.heap[i]? from fun i hi him hig hic => (set_far w10 g 7 v10 hig).trans ((hg10.block i (by have := HZ9.out; omega) (by rw [← HL.out]; exact hic)).trans (HK9.out i hi him)))
  have HZ10 := Lib.hid (show W.heap.size + 3 ≤ (w10.setCell ⟨g, 7, none⟩ v10).heap.size from by rw [set_size]; have := HZ9.out; have := hg10.size; omega)
  have hcl9 := H9.out.calls D.length ⟨q, ib, W.heap.size, q + 1, k⟩ (by simp)
  have hoc9 := H9.out.offC D.length ⟨q, ib, W.heap.size, q + 1, k⟩ k (by simp) hk
  have hS10 : w10.cell? ⟨W.heap.size, 0, none⟩ = some (.pointer (some ⟨g, 0, none⟩)) ∧ w10.cell? ⟨g, 7, none⟩ = some (.slice Al (Cs.getD k []).length cl) ∧ w10.cell? ⟨q + 1, 0, none⟩ = some (.pointer (some ⟨q, 0, none⟩)) := ⟨by have h := blk_cell ((hg10.block W.heap.size (lt_of hcl9.2.2.1) (Kd.R_ne HROW.out hcl9.2.2.1 (by decide))).trans hcl9.2.2.1) 0; rw [← HGG.out] at h; exact h, c10, blk_cell ((hg10.block (q + 1) (lt_of hcl9.2.2.2.1) (fun e => hoc9 (by rw [HL.out]; exact e.symm))).trans hcl9.2.2.2.1) 0⟩
  clear hcl9 hoc9
  obtain ⟨A10, cp10, e10⟩ := Kd.R_slice hr10
  have e11 : (Cs.getD k [] ++ [q]).length = (Cs.getD k []).length + 1 := by simp
  rw [e11] at e10
  subst e10
  clear hr10 hb10 hg10 hat10 hs9 hs10 H9 HR9 HROW e11 HK9 HZ9
  refine hK.out _ _ hS10 (fun hHeld => ?_)
  clear hK K
  refine norm_ (a' := ?_) ?_ ?_
  rotate_left
  · show Act.put _ (some 41) _ = _
    simp only [Act.put, List.setIfInBounds_toArray, List.set_cons_zero, List.set_cons_succ, i64_w, i32_w]
    rfl
  refine pz_ (i := 8) (N := some 42) #[true, true, true, true, true, true, true, true, true, false, false] (by kernel_rfl) ?_
  refine pz_ (i := 9) (N := some 43) #[true, true, true, true, true, true, true, true, true, true, false] (by kernel_rfl) ?_
  refine last_ (i := 10) (N := none) #[true, true, true, true, true, true, true, true, true, true, true] rfl rfl (by kernel_rfl) (by decide) (fun K hK => ?_)
  refine skip_step (by rfl) rfl (w1 := (w10.setCell ⟨g, 7, none⟩ (.slice A10 ((Cs.getD k []).length + 1) cp10))) ?hr10 ?_
  case hr10 => first | (go_simp; done) | (go_simp; rfl)
  refine hK.out _ _ ?_
  clear hK K
  refine done_ (by kernel_rfl) ?_
  clear c10 f10 hHeld
  have hmh : IsMuH (w10.setCell ⟨g, 7, none⟩ (.slice A10 ((Cs.getD k []).length + 1) cp10)) m := HP10.out.tc.mu
  have hcl := HP10.out.calls D.length ⟨q, ib, W.heap.size, q + 1, k⟩ (by simp)
  have hsb11 : (w10.setCell ⟨g, 7, none⟩ (.slice A10 ((Cs.getD k []).length + 1) cp10)).cell? ⟨W.heap.size, 0, none⟩ = some (.pointer (some ⟨g, 0, none⟩)) := by have h := blk_cell hcl.2.2.1 0; rw [← HGG.out] at h; exact h
  have hs11 := (HP10.out.tc.at_ k x HX.out).1
  rw [← HG.out] at hs11
  have c11 : (w10.setCell ⟨g, 7, none⟩ (.slice A10 ((Cs.getD k []).length + 1) cp10)).cell? ⟨g, 0, none⟩ = some (.pointer (some ⟨m, 0, none⟩)) := hs11.cell 0 rfl
  have HHM := Lib.hid hmh
  clear hcl hs11 hmh
  generalize hw11 : w10.setCell ⟨g, 7, none⟩ (.slice A10 ((Cs.getD k []).length + 1) cp10) = w11 at *
  clear hw11
  go_wp2_with fail
  refine (unlock_held muLib ⟨m, 0, none⟩ _ HHM.out.cell.1 HHM.out.cell.2).mono ?_
  rintro e w12 ⟨rfl, rfl⟩
  go_wp2_with fail
  go_ret
  refine ⟨W.heap.size, q + 1, q, _, rfl, HP10.out.muset, fun r cells t hr a1 a2 a3 a4 a5 a6 => ?_, ?_, ?_⟩
  · have hrm : r ≠ m := by rintro rfl; have := HMU0.out; rw [hr] at this; cases this; exact a2 rfl
    have hrg : r ≠ g := by rintro rfl; have := HST0.out; unfold IsStopC at this; rw [hr] at this; cases this; exact a3 rfl
    have hrc : some r ≠ (cv.getD k nilV).ownBlock := by intro e; obtain ⟨cells', hc'⟩ := Kd.R_typed HROW0.out r e.symm; rw [hr] at hc'; cases hc'; exact a4 rfl
    exact (set_far w11 m 0 _ hrm).trans (HK10.out r (lt_of hr) hrm hrg hrc)
  · rw [set_size]; have := HZ10.out; omega
  · have := HQW.out; omega
end Go.Proofs.Ytofbnoiecpmjnaa.Pr
