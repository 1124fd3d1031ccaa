/- HaltCalled's walk: it answers true. -/
import Derived.Test.YtofbnoiecpmjnaaKj
import Derived.Deep.QuietTactic
import Derived.BigQuiet
import Derived.StillTailTactics
namespace Go.Proofs.Ytofbnoiecpmjnaa.Pr
open Go.RowKit Go.Proofs.YtofbnoiecpmjnaaW.PrintWords Go.Proofs.YtofbnoiecpmjnaaW.PrintLast Go.Proofs.YtofbnoiecpmjnaaW.PrintMore Go.MuLone
open Go.Lib
set_option linter.unusedVariables false
set_option linter.unusedSimpArgs false
theorem made_form {α : Type} {d : Kd α} {e base : Nat} {w : World} {v : Value} {xs : List α} (h : Kd.R d e w base T1 v xs) (hf : ∃ b, v.ownBlock = some b) : ∃ g c, v = .slice (some ⟨g, 0, none⟩) xs.length c := by
  obtain ⟨inner, ⟨_, hv⟩, _⟩ := h.2
  rcases hv with ⟨rfl, _⟩ | ⟨g, cap, cur, rfl, _⟩
  · obtain ⟨b, hb⟩ := hf; cases hb
  · exact ⟨g, cap, rfl⟩
theorem QC.start {w0 w2 w3 : World} {m : Nat} {st : List PL} {up : List Nat} {n : Nat} {v10 v11 : Value} {y : Int} {yb tr ct a : Nat} (h : GT w0 w2 m st up n v10 v11) (hy : w2.heap[yb]? = some (.cells #[.int .i64 y] 26 (0, 0))) (hg : w2.grownBy w3 none) (hB : Below w0.heap.size w0 w3)
    (hR : Kd.R kI 3 w3 w0.heap.size T1 (.slice (some ⟨tr, 0, none⟩) a ct) (List.replicate a 0)) :
    QC w0 (((w3.alloc (.cells #[.slice (some ⟨tr, 0, none⟩) a ct] 23)).alloc (.cells #[.bool false] 4)).alloc (.cells #[.int .i64 0] 3)) m st up (List.replicate st.length nilV) (List.replicate st.length []) ⟨w3.heap.size, w3.heap.size + 1, yb, tr, ct, a⟩ y [] v10 (.slice none 0 0) (w3.heap.size + 1 + 1) 0 := by
  have hz := hB.size
  have s1 : (w3.alloc (.cells #[.slice (some ⟨tr, 0, none⟩) a ct] 23)).heap.size = w3.heap.size + 1 := by simp
  have s2 : ((w3.alloc (.cells #[.slice (some ⟨tr, 0, none⟩) a ct] 23)).alloc (.cells #[.bool false] 4)).heap.size = w3.heap.size + 2 := by simp
  have n1 := heap_alloc_new w3 (.cells #[.slice (some ⟨tr, 0, none⟩) a ct] 23)
  have n2 := heap_alloc_new (w3.alloc (.cells #[.slice (some ⟨tr, 0, none⟩) a ct] 23)) (.cells #[.bool false] 4)
  have n3 := heap_alloc_new ((w3.alloc (.cells #[.slice (some ⟨tr, 0, none⟩) a ct] 23)).alloc (.cells #[.bool false] 4)) (.cells #[.int .i64 0] 3)
  rw [s1] at n2
  rw [s2] at n3
  have b3 : Below w3.heap.size w3 (((w3.alloc (.cells #[.slice (some ⟨tr, 0, none⟩) a ct] 23)).alloc (.cells #[.bool false] 4)).alloc (.cells #[.int .i64 0] 3)) := below_alloc (below_alloc (below_alloc (Below.refl _ _) _) _) _
  have hk2 : ∀ k, k < w2.heap.size → (((w3.alloc (.cells #[.slice (some ⟨tr, 0, none⟩) a ct] 23)).alloc (.cells #[.bool false] 4)).alloc (.cells #[.int .i64 0] 3)).heap[k]? = w2.heap[k]? := fun k hk => (b3.block k (by have := hg.size; omega)).trans (hg.block k hk (by simp))
  have hB6 : Below w0.heap.size w0 (((w3.alloc (.cells #[.slice (some ⟨tr, 0, none⟩) a ct] 23)).alloc (.cells #[.bool false] 4)).alloc (.cells #[.int .i64 0] 3)) := below_alloc (below_alloc (below_alloc hB _) _) _
  have k2 := heap_alloc_lt ((w3.alloc (.cells #[.slice (some ⟨tr, 0, none⟩) a ct] 23)).alloc (.cells #[.bool false] 4)) (.cells #[.int .i64 0] 3) (k := w3.heap.size + 1) (by rw [s2]; omega)
  have k1 := heap_alloc_lt ((w3.alloc (.cells #[.slice (some ⟨tr, 0, none⟩) a ct] 23)).alloc (.cells #[.bool false] 4)) (.cells #[.int .i64 0] 3) (k := w3.heap.size) (by rw [s2]; omega)
  have k0 := heap_alloc_lt (w3.alloc (.cells #[.slice (some ⟨tr, 0, none⟩) a ct] 23)) (.cells #[.bool false] 4) (k := w3.heap.size) (by rw [s1]; omega)
  have hth := h.th
  rw [← h.cnt] at hth
  have htc := hth.toC.more hB6 hk2
  have htr := Kd.R_lt hR tr rfl
  refine ⟨⟨⟨htc, k1.trans (k0.trans n1), k2.trans n2, (hk2 yb (lt_of hy)).trans hy, by show w0.heap.size ≤ w3.heap.size + 1; omega, Kd.R_below hR b3, by simp, fun j d hd => by simp at hd, fun i j d e _ hd => by simp at hd, fun j d i hd => by simp at hd, by simp⟩, row_keep rfl h.rowP (fun k hkv => hk2 k (Kd.R_lt h.rowP k hkv)), Kd.R_nil _ _ _ _ _⟩, rfl, n3, by omega, by show w3.heap.size + 1 + 1 ≠ tr; omega, ?_⟩
  have e : ∀ n : Nat, (List.replicate n ([] : List Nat)).flatten = [] := fun n => by
    induction n with
    | zero => rfl
    | succ n ih => rw [List.replicate_succ, List.flatten_cons, ih]; rfl
  rw [e]
  exact List.Perm.refl _
def cellN (wx : World) (v : Value) : Nat := match v with
  | .pointer (some a) => (intOf ((wx.cell? a).getD undef)).toNat
  | _ => 0
theorem cellN_at {wx : World} {g : Nat} {j : Nat} (h : wx.heap[g]? = some (.cells #[.int .i64 (j : Int)] 3 (0, 0))) : cellN wx (.pointer (some ⟨g, 0, none⟩)) = j := by
  have := blk_cell h 0
  unfold cellN
  simp only [this]
  rfl
theorem QD.drew {w0 W : World} {m : Nat} {st : List PL} {up : List Nat} {Y : List Int} {cv : List Value} {Cs : List (List Nat)} {v : VB} {y : Int} {D : List CD} {S : Nat → Int} {M : List Int} {v10 v15 : Value} (h : QD w0 W m st up Y cv Cs v y D S M v10 v15) : QD w0 W.drew m st up Y cv Cs v y D S M v10 v15 :=
  ⟨h.hc.drew, Kd.R_drew h.rowP, Kd.R_drew h.rowB⟩
def CalledPost (W : World) (e : Ending) (w' : World) : Prop := e = .returned (.bool true) ∧ Below W.heap.size W w'
set_option maxHeartbeats 4000000 in
set_option maxRecDepth 100000 in
theorem called_run (B S : List Int) (Tk : List Bool) (y : Int) (A0 A1 A2 : Option Addr) (n0 n1 n2 c0 c1 c2 : Nat) (w : World) (h0 : Kd.C kI w A0 n0 B) (h1 : Kd.C kI w A1 n1 S) (h2 : Kd.C Kd.bool w A2 n2 Tk)
    (r0 : ∀ v ∈ B, -9223372036854775808 ≤ v ∧ v ≤ 9223372036854775807) (r1 : ∀ v ∈ S, -9223372036854775808 ≤ v ∧ v ≤ 9223372036854775807) (hz : B.length * 8 ≤ reachBytes) (hz1 : S.length * 8 ≤ reachBytes) :
    Calls Try.prog 7 #[.slice A0 n0 c0, .slice A1 n1 c1, .slice A2 n2 c2, .int .i64 y] w fun e w' => CalledPost w e w' := by
  have hn0 := h0.1
  have hnb : n0 + 1 ≤ 17592186044000 := by unfold reachBytes at hz; omega
  have hn1 := h1.2.1
  have hn2 := h2.2.1
  have hS1 := h1.1
  have hna : n1 ≤ 17592186044000 := by unfold reachBytes at hz1; omega
  -- why's cell
  have b0 : Below w.heap.size w (w.alloc (.cells #[.int .i64 y] 26)) := below_alloc (Below.refl _ _) _
  have hyb0 : (w.alloc (.cells #[.int .i64 y] 26)).heap[w.heap.size]? = some (.cells #[.int .i64 y] 26 (0, 0)) := heap_alloc_new w _
  have H0 := Lib.hid h0
  have H1 := Lib.hid h1
  have H2 := Lib.hid h2
  have R0 := Lib.hid r0
  have R1 := Lib.hid r1
  have HZ := Lib.hid hz
  have HB0 := Lib.hid b0
  have HYB0 := Lib.hid hyb0
  have HS1 := Lib.hid hS1
  clear h0 h1 h2 r0 r1 hz hz1 hn0 b0 hyb0 hS1
  go_enter Try.func7, Try.ntmps7
  go_wp2_with fail
  generalize w.alloc (.cells #[.int .i64 y] 26) = wa at *
  refine (alive_run wa).mono ?_
  rintro e w1 ⟨rfl, hb⟩
  have HB1 := Lib.hid (HB0.out.trans (hb.mono HB0.out.size))
  have HYB1 := Lib.hid ((hb.block _ (lt_of HYB0.out)).trans HYB0.out)
  clear hb HB0 HYB0
  go_wp2_with fail
  refine (grown_run w1 B A0 n0 c0 (Kd.C_below H0.out HB1.out) R0.out HZ.out).mono ?_
  rintro e w2 ⟨m, st, up, v10, v11, rfl, hG⟩
  have HYB2 := Lib.hid ((hG.th.below.block _ (lt_of HYB1.out)).trans HYB1.out)
  have HG := Lib.hid (hG.lower HB1.out)
  clear hG HB1 H0 R0 HZ HYB1
  have hyv : w2.cell? ⟨w.heap.size, 0, none⟩ = some (.int .i64 y) := blk_cell HYB2.out 0
  by_cases hy0 : y = 0
  · have hyb : (y == 0) = true := beq_iff_eq.mpr hy0
    go_wp2_with fail
    go_ret
    exact ⟨rfl, HG.out.th.below⟩
  · have hyb : (y == 0) = false := beq_eq_false_iff_ne.mpr hy0
    obtain ⟨N, hN⟩ : ∃ N, N = n0 + 1 := ⟨_, rfl⟩
    rw [← hN] at HG hnb
    have hN0 : 0 < N := by omega
    clear hN
    have hcn := HG.out.cnt
    obtain ⟨g8, k8, e8, _⟩ := Kd.R_form HG.out.rowP (by rw [List.length_map, hcn]; exact hN0)
    rw [List.length_map, hcn] at e8
    subst e8
    have HCN := Lib.hid hcn
    clear hcn
    obtain ⟨A11, k11, e11⟩ := Kd.R_slice HG.out.rowI
    subst e11
    go_wp2_with (refine Kd.R_make kI (w0 := w) w.heap.size 3 rfl rfl 23 (.tmp 46) (.tmp 46) rfl (n1 : Int) rfl rfl Try.underlying23 (.int .i64 0) 8 infoI3 rfl (by decide) (by omega) (0 : Int) (ok := fun _ => True) (okp := fun _ => False) ?mZ (fun _ hk => hk.elim) trivial (by omega) ?mL ?mB ?mS ?_; (case mZ => rfl); (case mL => simp only [Int.toNat_natCast]; omega); (case mB => exact HG.out.th.below); (case mS => exact HG.out.th.below.size); intro v1 w3 hr hb hg hfr; rw [Int.toNat_natCast] at hr; obtain ⟨tr, ct, hv1⟩ := made_form hr (hfr.imp (fun _ h => h.1)); rw [List.length_replicate] at hv1; subst hv1; have HQ0 := Lib.hid (QC.start HG.out HYB2.out hg hb hr); clear hr hb hg hfr)
    generalize ((w3.alloc (.cells #[.slice (some ⟨tr, 0, none⟩) n1 ct] 23)).alloc (.cells #[.bool false] 4)).alloc (.cells #[.int .i64 0] 3) = w6 at *
    generalize w3.heap.size + 1 + 1 = ic0 at *
    generalize w3.heap.size + 1 = wb at *
    generalize w3.heap.size = tb at *
    go_loopw [15, 16, 17] (fun v15 v16 v17 wx => ∃ (j ic : Nat) (cv : List Value) (Cs : List (List Nat)) (D : List CD), v16 = .pointer (some ⟨ic, 0, none⟩) ∧ j ≤ n1 ∧ Hid (QC w wx m st up cv Cs ⟨tb, wb, w.heap.size, tr, ct, n1⟩ y D (.slice (some ⟨g8, 0, none⟩) N k8) v15 ic j)) (fun _ v16 _ wx => n1 - cellN wx v16)
    case atStart => exact ⟨0, ic0, _, _, [], rfl, Nat.zero_le _, HQ0⟩
    case round =>
      clear HQ0 HG hyv HYB2
      obtain ⟨j, ic, cv, Cs, D, rfl, hjn, HQ⟩ := hrel
      have hic : wr.cell? ⟨ic, 0, none⟩ = some (.int .i64 (j : Int)) := blk_cell HQ.out.icf 0
      by_cases hlt : j < n1
      · obtain ⟨a1, rfl, hx1⟩ := at_I (Kd.C_below H1.out HQ.out.qd.hc.tc.below) (j : Int) (by omega) (by omega)
        simp only [Int.toNat_natCast] at hx1
        have hb1 := R1.out (S.getD j 0) (by
          have : j < S.length := by have := HS1.out; omega
          simp [List.getD, this])
        generalize S.getD j 0 = c at *
        go_wp2_with fail
        refine (pick_run c N wr hb1 ⟨by omega, by omega⟩).mono ?_
        rintro e w4 ⟨rfl, hw4⟩
        subst hw4
        have hpk := pickF_in c N (by omega)
        obtain ⟨k, hk⟩ : ∃ k : Nat, pickF c N = k := ⟨(pickF c N).toNat, (Int.toNat_of_nonneg hpk.1).symm⟩
        rw [hk] at hpk ⊢
        have hkN : k < N := by omega
        clear hk hpk
        have hx8 := read_P HQ.out.qd.rowP k hkN
        have HU : Hid (Calls Try.prog 20 #[.pointer (some ⟨(st.map PL.g).getD k 0, 0, none⟩), .func (.func 21) #[] #[.pointer (some ⟨tb, 0, none⟩), .pointer (some ⟨ic, 0, none⟩), .pointer (some ⟨wb, 0, none⟩), .pointer (some ⟨w.heap.size, 0, none⟩)]] w4 fun e w' =>
            ∃ (d : CD) (cv' : List Value) (Cs' : List (List Nat)), e = .returned (.func (.func 38) #[] #[.pointer (some ⟨d.sb, 0, none⟩), .pointer (some ⟨d.cb, 0, none⟩)]) ∧ QM w w' m st up cv' Cs' ⟨tb, wb, w.heap.size, tr, ct, n1⟩ y D d (.slice (some ⟨g8, 0, none⟩) N k8) u15 ic j) := Lib.hid (HQ.out.after k (by rw [HCN.out]; exact hkN) hlt (by show n1 ≤ _; omega))
        obtain ⟨A15, k15, e15⟩ := Kd.R_slice HQ.out.qd.rowB
        have hlB : (D.map (fun d => (d.sb, d.cb))).length = j := by rw [List.length_map]; exact HQ.out.len
        rw [hlB] at e15
        subst e15
        have HLB := Lib.hid hlB
        have HME := Lib.hid (cellN_at HQ.out.icf)
        clear hlB
        generalize (st.map PL.g).getD k 0 = gk at *
        go_wp2_with fail
        refine HU.out.mono ?_
        clear HU hx8 hx1
        rintro e w5 ⟨d, cv', Cs', rfl, hM⟩
        have HM := Lib.hid hM
        have hf := fne22
        clear hM hic
        go_wp2_with (at_builtin; refine Kd.R_append kF (w0 := w) w.heap.size rfl (.tmp 68) (.tmp 70) 41 22 .nilFunc 8 rfl Try.underlying41 infoF22 rfl (by decide) (by omega) (.slice A15 j k15) (D.map (fun d => (d.sb, d.cb))) (d.sb, d.cb) [.func (.func 38) #[] #[.pointer (some ⟨d.sb, 0, none⟩), .pointer (some ⟨d.cb, 0, none⟩)]] (fun _ => True) (fun _ => False) rfl rfl ?aP (fun _ hk => hk.elim) ?aF ?aO ?aB ?aS ?aL ?_; (case aP => rfl); (case aF => exact fun _ _ => trivial); (case aO => exact HM.out.rowB); (case aB => exact HM.out.hc.tc.below); (case aS => exact HM.out.hc.tc.below.size); (case aL => have := HLB.out; omega); intro u1 w7 ho hb hg hat; have HM2 := Lib.hid (HM.out.step ho hb hg); clear ho hb hg hat; have hic2 := blk_cell HM2.out.2 0; have hic2' : w7.cell? ⟨ic, 0, none⟩ = some (.int .i64 (j : Int)) := hic2; clear hic2)
        clear hf
        go_roundw
        case rel => exact ⟨j + 1, w7.heap.size, cv', Cs', D ++ [d], rfl, by omega, Lib.hid (HM2.out.1.next HM.out.len HM.out.perm (below_alloc HM2.out.1.hc.tc.below _) (below_alloc (Below.refl _ _) _) (Nat.le_refl _) (heap_alloc_new w7 _))⟩
        case measure => rw [HME.out, show cellN (w7.alloc (Obj.cells #[Value.int IntKind.i64 ((j : Int) + 1)] 3)) (Value.pointer (some ⟨w7.heap.size, 0, none⟩)) = j + 1 from cellN_at (heap_alloc_new w7 _)]; omega
      · obtain rfl : n1 = j := by omega
        have HDL := Lib.hid HQ.out.len
        have HPERM := Lib.hid HQ.out.perm
        obtain ⟨A15, k15, e15⟩ := Kd.R_slice HQ.out.qd.rowB
        rw [List.length_map, HDL.out] at e15
        subst e15
        have HQ2 : Hid (QD w wr m st up (List.replicate st.length 0) cv Cs ⟨tb, wb, w.heap.size, tr, ct, n1⟩ y D (SF Tk 0) (List.replicate n1 0) (.slice (some ⟨g8, 0, none⟩) N k8) (.slice A15 n1 k15)) := Lib.hid (by rw [SF_zero]; exact HQ.out.qd)
        clear HQ
        go_wp2_with fail
        clear hic
        go_loopw [18] (fun v18 wx => ∃ j : Nat, v18 = .int .i64 j ∧ j ≤ n1 ∧ Hid (QD w wx m st up (List.replicate st.length 0) cv Cs ⟨tb, wb, w.heap.size, tr, ct, n1⟩ y D (SF Tk j) (List.replicate n1 0) (.slice (some ⟨g8, 0, none⟩) N k8) (.slice A15 n1 k15))) (fun v18 _ => n1 - (intOf v18).toNat)
        case atStart => exact ⟨0, rfl, Nat.zero_le _, HQ2⟩
        case round =>
          clear HQ2
          obtain ⟨j, rfl, hj1, HQ⟩ := hrel
          by_cases hq2 : j < n2
          · by_cases hlt : j < n1
            · obtain ⟨a2, rfl, hxT⟩ := at_B (Kd.C_below H2.out HQ.out.hc.tc.below) (j : Int) (by omega) (by omega)
              simp only [Int.toNat_natCast] at hxT
              cases htj : Tk.getD j false with
              | false =>
                rw [htj] at hxT
                have HN := Lib.hid (SF_same htj)
                clear htj
                go_wp2_with fail
                go_roundw
                case rel => exact ⟨j + 1, by go_num, by omega, Lib.hid (by rw [HN.out]; exact HQ.out)⟩
                case measure => simp [intOf]; omega
              | true =>
                rw [htj] at hxT
                have HTJ := Lib.hid htj
                have HN := Lib.hid (SF_step htj)
                have HN2 := Lib.hid (show SF Tk (j + 1) j = 2 by unfold SF; rw [if_pos ⟨by omega, htj⟩])
                clear htj
                obtain ⟨p, hp, hcall⟩ := HQ.out.back j (by rw [HDL.out]; exact hlt)
                obtain ⟨go, co, e9, _⟩ := Kd.R_form HQ.out.rowB (by rw [List.length_map, HDL.out]; omega)
                rw [List.length_map, HDL.out] at e9
                cases e9
                have hxb := read_F HQ.out.rowB j hlt
                rw [hp] at hxb
                unfold encF ptrOf at hxb
                have HC1 : Hid (Calls Try.prog 38 #[.pointer (some ⟨p.1, 0, none⟩), .pointer (some ⟨p.2, 0, none⟩)] wr fun e w' => e = .returned (.bool true) ∧ QD w w' m st up (List.replicate st.length 0) cv Cs ⟨tb, wb, w.heap.size, tr, ct, n1⟩ y D (SF Tk (j + 1)) (List.replicate n1 0) (.slice (some ⟨g8, 0, none⟩) N k8) (.slice (some ⟨go, 0, none⟩) n1 k15)) := Lib.hid (by
                  have h := hcall
                  rw [SF_at, if_pos rfl, HN.out] at h
                  exact h)
                have HPP := Lib.hid hp
                clear hcall hp
                go_wp2_with fail
                refine HC1.out.mono ?_
                clear HC1 hxb hxT
                rintro e w7 ⟨rfl, hq7⟩
                have HQ7 := Lib.hid hq7
                clear hq7 HQ
                obtain ⟨a2', ha2', hxT⟩ := at_B (Kd.C_below H2.out HQ7.out.hc.tc.below) (j : Int) (by omega) (by omega)
                cases ha2'
                simp only [Int.toNat_natCast] at hxT
                rw [HTJ.out] at hxT
                obtain ⟨p', hp', hcall⟩ := HQ7.out.back j (by rw [HDL.out]; exact hlt)
                rw [HPP.out] at hp'
                subst hp'
                have hxb := read_F HQ7.out.rowB j hlt
                rw [HPP.out] at hxb
                unfold encF ptrOf at hxb
                have HC2 : Hid (Calls Try.prog 38 #[.pointer (some ⟨p.1, 0, none⟩), .pointer (some ⟨p.2, 0, none⟩)] w7 fun e w' => e = .returned (.bool false) ∧ QD w w' m st up (List.replicate st.length 0) cv Cs ⟨tb, wb, w.heap.size, tr, ct, n1⟩ y D (SF Tk (j + 1)) (List.replicate n1 0) (.slice (some ⟨g8, 0, none⟩) N k8) (.slice (some ⟨go, 0, none⟩) n1 k15)) := Lib.hid (by
                  have h := hcall
                  rw [HN2.out, if_neg (by decide)] at h
                  exact h)
                clear hcall
                go_wp2_with fail
                refine HC2.out.mono ?_
                clear HC2 hxb hxT
                rintro e w8 ⟨rfl, hq8⟩
                have HQ8 := Lib.hid hq8
                clear hq8 HQ7
                go_wp2_with fail
                go_roundw
                case rel => exact ⟨j + 1, by go_num, by omega, HQ8⟩
                case measure => simp [intOf]; omega
            · have HSF := Lib.hid (show ∀ i, i < n1 → SF Tk j i = if Tk.getD i false = true then 2 else 0 from fun i hi => by
                unfold SF
                by_cases ht : Tk.getD i false = true
                · have hin : i < n2 := by
                    have hl := H2.out.1
                    refine Nat.lt_of_not_le (fun hle => ?_)
                    have : Tk.getD i false = false := by simp only [List.getD]; rw [List.getElem?_eq_none (by omega)]; rfl
                    rw [this] at ht; cases ht
                  rw [if_pos ⟨by omega, ht⟩, if_pos ht]
                · rw [if_neg (fun h => ht h.2), if_neg ht])
              have hx8 := read_P HQ.out.rowP 0 hN0
              have hxy : wr.cell? ⟨w.heap.size, 0, none⟩ = some (.int .i64 y) := blk_cell HQ.out.hc.ybf 0
              have HCC := Lib.hid (HQ.out.drew.cancel hy0 (by rw [HCN.out]; exact hN0) (rep_get _) HPERM.out (by show n1 ≤ _; omega))
              generalize (st.map PL.g).getD 0 0 = g0 at *
              go_wp2_with fail
              go_still_tail 4, (by kernel_rfl)
              change wpList _ _ _ _ _ wr.drew
              generalize wr.drew = w5 at *
              go_wp2_with fail
              refine HCC.out.mono ?_
              clear HCC hx8 hxy
              rintro e w6 ⟨rfl, Y', cv', Cs', S', M', q1, q2, q3⟩
              have HQ5 := Lib.hid q1
              have HY := Lib.hid q2
              have HF3 := Lib.hid (show ∀ i, i < n1 → (S' i == 0) = false ∧ S' i ≠ 0 ∧ M'.getD i 0 = if Tk.getD i false = true then 0 else 1 from fun i hi => by
                obtain ⟨t1, t2⟩ := q3 i (by rw [HDL.out]; exact hi)
                have t3 := HSF.out i hi
                by_cases ht : Tk.getD i false = true
                · rw [if_pos ht] at t3 ⊢
                  rw [t3, if_neg (by decide)] at t1 t2
                  exact ⟨by rw [t1]; rfl, by rw [t1]; decide, t2⟩
                · rw [if_neg ht] at t3 ⊢
                  rw [t3, if_pos rfl] at t1 t2
                  exact ⟨by rw [t1]; rfl, by rw [t1]; decide, t2⟩)
              clear q1 q2 q3 HQ HSF HPERM
              go_wp2_with fail
              go_loopw [20, 21] (fun v20 v21 wx => ∃ i : Nat, v20 = .int .i64 i ∧ i ≤ n1 ∧ Hid (QD w wx m st up Y' cv' Cs' ⟨tb, wb, w.heap.size, tr, ct, n1⟩ y D S' M' (.slice (some ⟨g8, 0, none⟩) N k8) (.slice A15 n1 k15))) (fun v20 _ _ => n1 - (intOf v20).toNat)
              case atStart => exact ⟨0, rfl, Nat.zero_le _, HQ5⟩
              case round =>
                clear HQ5
                obtain ⟨i, rfl, hi1, HQ6⟩ := hrel
                by_cases hlt : i < n1
                · have hxt : wr.cell? ⟨tb, 0, none⟩ = some (.slice (some ⟨tr, 0, none⟩) n1 ct) := blk_cell HQ6.out.hc.tbf 0
                  have hxm := (read_J HQ6.out.hc.rowT i hlt).1
                  have hxm' : wr.cell? ⟨tr, i, none⟩ = some (.int .i64 (M'.getD i 0)) := hxm
                  clear hxm
                  obtain ⟨f1, f2, f3⟩ := HF3.out i hlt
                  obtain ⟨p, hp, hcall⟩ := HQ6.out.back i (by rw [HDL.out]; exact hlt)
                  obtain ⟨go, co, e9, _⟩ := Kd.R_form HQ6.out.rowB (by rw [List.length_map, HDL.out]; omega)
                  rw [List.length_map, HDL.out] at e9
                  cases e9
                  have hxb := read_F HQ6.out.rowB i hlt
                  rw [hp] at hxb
                  unfold encF ptrOf at hxb
                  have HC3 : Hid (Calls Try.prog 38 #[.pointer (some ⟨p.1, 0, none⟩), .pointer (some ⟨p.2, 0, none⟩)] wr fun e w' => e = .returned (.bool false) ∧ QD w w' m st up Y' cv' Cs' ⟨tb, wb, w.heap.size, tr, ct, n1⟩ y D S' M' (.slice (some ⟨g8, 0, none⟩) N k8) (.slice (some ⟨go, 0, none⟩) n1 k15)) := Lib.hid (by
                    have h := hcall
                    rw [f1, if_neg f2] at h
                    exact h)
                  clear hcall hp f1 f2
                  by_cases hq2 : i < n2
                  · obtain ⟨a2, rfl, hxT⟩ := at_B (Kd.C_below H2.out HQ6.out.hc.tc.below) (i : Int) (by omega) (by omega)
                    simp only [Int.toNat_natCast] at hxT
                    cases htj : Tk.getD i false with
                    | false =>
                      rw [htj] at hxT f3
                      have f4 : M'.getD i 0 = 1 := f3
                      rw [f4] at hxm'
                      clear htj f3 f4
                      go_wp2_with fail
                      refine HC3.out.mono ?_
                      clear HC3 hxb hxm' hxt
                      rintro e w7 ⟨rfl, hq7⟩
                      have HQ8 := Lib.hid hq7
                      clear hq7 HQ6
                      go_wp2_with fail
                      go_roundw
                      case rel => exact ⟨i + 1, by go_num, by omega, HQ8⟩
                      case measure => simp [intOf]; omega
                    | true =>
                      rw [htj] at hxT f3
                      have f4 : M'.getD i 0 = 0 := f3
                      rw [f4] at hxm'
                      clear htj f3 f4
                      go_wp2_with fail
                      refine HC3.out.mono ?_
                      clear HC3 hxb hxm' hxt
                      rintro e w7 ⟨rfl, hq7⟩
                      have HQ8 := Lib.hid hq7
                      clear hq7 HQ6
                      go_wp2_with fail
                      go_roundw
                      case rel => exact ⟨i + 1, by go_num, by omega, HQ8⟩
                      case measure => simp [intOf]; omega
                  · have htj : Tk.getD i false = false := by
                      have hl := H2.out.1
                      simp only [List.getD]; rw [List.getElem?_eq_none (by omega)]; rfl
                    rw [htj] at f3
                    have f4 : M'.getD i 0 = 1 := f3
                    rw [f4] at hxm'
                    clear htj f3 f4
                    go_wp2_with fail
                    refine HC3.out.mono ?_
                    clear HC3 hxb hxm' hxt
                    rintro e w7 ⟨rfl, hq7⟩
                    have HQ8 := Lib.hid hq7
                    clear hq7 HQ6
                    go_wp2_with fail
                    go_roundw
                    case rel => exact ⟨i + 1, by go_num, by omega, HQ8⟩
                    case measure => simp [intOf]; omega
                · obtain rfl : n1 = i := by omega
                  have hx8 := read_P HQ6.out.rowP 0 hN0
                  have hxy : wr.cell? ⟨w.heap.size, 0, none⟩ = some (.int .i64 y) := blk_cell HQ6.out.hc.ybf 0
                  have HAG : Hid (Calls Try.prog 16 #[.pointer (some ⟨(st.map PL.g).getD 0 0, 0, none⟩), .int .i64 y] wr.drew fun e w' => e = .returned (.int .i64 y) ∧ w' = wr.drew) := Lib.hid (by
                    have h := cancel_again HQ6.out.drew.hc hy0 0 (by rw [HCN.out]; exact hN0) (by rw [HY.out]; exact hy0)
                    rw [HY.out] at h
                    exact h)
                  generalize (st.map PL.g).getD 0 0 = g0 at *
                  have HQ7 := Lib.hid HQ6.out.drew
                  clear HQ6
                  go_wp2_with fail
                  go_still_tail 4, (by kernel_rfl)
                  change wpList _ _ _ _ _ wr.drew
                  generalize wr.drew = w5 at *
                  go_wp2_with fail
                  refine HAG.out.mono ?_
                  clear HAG hx8 hxy
                  rintro e w9 ⟨rfl, hw9⟩
                  subst hw9
                  have hxt : w9.cell? ⟨tb, 0, none⟩ = some (.slice (some ⟨tr, 0, none⟩) n1 ct) := blk_cell HQ7.out.hc.tbf 0
                  have hxy : w9.cell? ⟨w.heap.size, 0, none⟩ = some (.int .i64 y) := blk_cell HQ7.out.hc.ybf 0
                  have hxw : w9.cell? ⟨wb, 0, none⟩ = some (.bool false) := blk_cell HQ7.out.hc.wbf 0
                  go_wp2_with fail
                  go_loopw [23] (fun v23 wx => ∃ i : Nat, v23 = .int .i64 i ∧ i ≤ n1 ∧ wx = w9) (fun v23 _ => n1 - (intOf v23).toNat)
                  case atStart => exact ⟨0, rfl, Nat.zero_le _, rfl⟩
                  case round =>
                    obtain ⟨i, rfl, hi1', rfl⟩ := hrel
                    by_cases hlt : i < n1
                    · have hxm' : wr.cell? ⟨tr, i, none⟩ = some (.int .i64 (M'.getD i 0)) := (read_J HQ7.out.hc.rowT i hlt).1
                      obtain ⟨f1, f2, f3⟩ := HF3.out i hlt
                      cases htj : Tk.getD i false with
                      | false =>
                        rw [htj] at f3
                        have f4 : M'.getD i 0 = 1 := f3
                        rw [f4] at hxm'
                        clear htj f1 f2 f3 f4
                        go_wp2_with fail
                        go_roundw
                        case rel => exact ⟨i + 1, by go_num, by omega, by first | rfl | trivial⟩
                        case measure => simp [intOf]; omega
                      | true =>
                        rw [htj] at f3
                        have f4 : M'.getD i 0 = 0 := f3
                        rw [f4] at hxm'
                        clear htj f1 f2 f3 f4
                        go_wp2_with fail
                        go_roundw
                        case rel => exact ⟨i + 1, by go_num, by omega, by first | rfl | trivial⟩
                        case measure => simp [intOf]; omega
                    · have hyy : (y == y) = true := beq_self_eq_true _
                      go_wp2_with fail
                      go_ret
                      exact ⟨rfl, HQ7.out.hc.tc.below⟩
          · have HSF := Lib.hid (show ∀ i, i < n1 → SF Tk j i = if Tk.getD i false = true then 2 else 0 from fun i hi => by
              unfold SF
              by_cases ht : Tk.getD i false = true
              · have hin : i < n2 := by
                  have hl := H2.out.1
                  refine Nat.lt_of_not_le (fun hle => ?_)
                  have : Tk.getD i false = false := by simp only [List.getD]; rw [List.getElem?_eq_none (by omega)]; rfl
                  rw [this] at ht; cases ht
                rw [if_pos ⟨by omega, ht⟩, if_pos ht]
              · rw [if_neg (fun h => ht h.2), if_neg ht])
            have hx8 := read_P HQ.out.rowP 0 hN0
            have hxy : wr.cell? ⟨w.heap.size, 0, none⟩ = some (.int .i64 y) := blk_cell HQ.out.hc.ybf 0
            have HCC := Lib.hid (HQ.out.drew.cancel hy0 (by rw [HCN.out]; exact hN0) (rep_get _) HPERM.out (by show n1 ≤ _; omega))
            generalize (st.map PL.g).getD 0 0 = g0 at *
            go_wp2_with fail
            go_still_tail 4, (by kernel_rfl)
            change wpList _ _ _ _ _ wr.drew
            generalize wr.drew = w5 at *
            go_wp2_with fail
            refine HCC.out.mono ?_
            clear HCC hx8 hxy
            rintro e w6 ⟨rfl, Y', cv', Cs', S', M', q1, q2, q3⟩
            have HQ5 := Lib.hid q1
            have HY := Lib.hid q2
            have HF3 := Lib.hid (show ∀ i, i < n1 → (S' i == 0) = false ∧ S' i ≠ 0 ∧ M'.getD i 0 = if Tk.getD i false = true then 0 else 1 from fun i hi => by
              obtain ⟨t1, t2⟩ := q3 i (by rw [HDL.out]; exact hi)
              have t3 := HSF.out i hi
              by_cases ht : Tk.getD i false = true
              · rw [if_pos ht] at t3 ⊢
                rw [t3, if_neg (by decide)] at t1 t2
                exact ⟨by rw [t1]; rfl, by rw [t1]; decide, t2⟩
              · rw [if_neg ht] at t3 ⊢
                rw [t3, if_pos rfl] at t1 t2
                exact ⟨by rw [t1]; rfl, by rw [t1]; decide, t2⟩)
            clear q1 q2 q3 HQ HSF HPERM
            go_wp2_with fail
            go_loopw [20, 21] (fun v20 v21 wx => ∃ i : Nat, v20 = .int .i64 i ∧ i ≤ n1 ∧ Hid (QD w wx m st up Y' cv' Cs' ⟨tb, wb, w.heap.size, tr, ct, n1⟩ y D S' M' (.slice (some ⟨g8, 0, none⟩) N k8) (.slice A15 n1 k15))) (fun v20 _ _ => n1 - (intOf v20).toNat)
            case atStart => exact ⟨0, rfl, Nat.zero_le _, HQ5⟩
            case round =>
              clear HQ5
              obtain ⟨i, rfl, hi1, HQ6⟩ := hrel
              by_cases hlt : i < n1
              · have hxt : wr.cell? ⟨tb, 0, none⟩ = some (.slice (some ⟨tr, 0, none⟩) n1 ct) := blk_cell HQ6.out.hc.tbf 0
                have hxm := (read_J HQ6.out.hc.rowT i hlt).1
                have hxm' : wr.cell? ⟨tr, i, none⟩ = some (.int .i64 (M'.getD i 0)) := hxm
                clear hxm
                obtain ⟨f1, f2, f3⟩ := HF3.out i hlt
                obtain ⟨p, hp, hcall⟩ := HQ6.out.back i (by rw [HDL.out]; exact hlt)
                obtain ⟨go, co, e9, _⟩ := Kd.R_form HQ6.out.rowB (by rw [List.length_map, HDL.out]; omega)
                rw [List.length_map, HDL.out] at e9
                cases e9
                have hxb := read_F HQ6.out.rowB i hlt
                rw [hp] at hxb
                unfold encF ptrOf at hxb
                have HC3 : Hid (Calls Try.prog 38 #[.pointer (some ⟨p.1, 0, none⟩), .pointer (some ⟨p.2, 0, none⟩)] wr fun e w' => e = .returned (.bool false) ∧ QD w w' m st up Y' cv' Cs' ⟨tb, wb, w.heap.size, tr, ct, n1⟩ y D S' M' (.slice (some ⟨g8, 0, none⟩) N k8) (.slice (some ⟨go, 0, none⟩) n1 k15)) := Lib.hid (by
                  have h := hcall
                  rw [f1, if_neg f2] at h
                  exact h)
                clear hcall hp f1 f2
                by_cases hq2 : i < n2
                · obtain ⟨a2, rfl, hxT⟩ := at_B (Kd.C_below H2.out HQ6.out.hc.tc.below) (i : Int) (by omega) (by omega)
                  simp only [Int.toNat_natCast] at hxT
                  cases htj : Tk.getD i false with
                  | false =>
                    rw [htj] at hxT f3
                    have f4 : M'.getD i 0 = 1 := f3
                    rw [f4] at hxm'
                    clear htj f3 f4
                    go_wp2_with fail
                    refine HC3.out.mono ?_
                    clear HC3 hxb hxm' hxt
                    rintro e w7 ⟨rfl, hq7⟩
                    have HQ8 := Lib.hid hq7
                    clear hq7 HQ6
                    go_wp2_with fail
                    go_roundw
                    case rel => exact ⟨i + 1, by go_num, by omega, HQ8⟩
                    case measure => simp [intOf]; omega
                  | true =>
                    rw [htj] at hxT f3
                    have f4 : M'.getD i 0 = 0 := f3
                    rw [f4] at hxm'
                    clear htj f3 f4
                    go_wp2_with fail
                    refine HC3.out.mono ?_
                    clear HC3 hxb hxm' hxt
                    rintro e w7 ⟨rfl, hq7⟩
                    have HQ8 := Lib.hid hq7
                    clear hq7 HQ6
                    go_wp2_with fail
                    go_roundw
                    case rel => exact ⟨i + 1, by go_num, by omega, HQ8⟩
                    case measure => simp [intOf]; omega
                · have htj : Tk.getD i false = false := by
                    have hl := H2.out.1
                    simp only [List.getD]; rw [List.getElem?_eq_none (by omega)]; rfl
                  rw [htj] at f3
                  have f4 : M'.getD i 0 = 1 := f3
                  rw [f4] at hxm'
                  clear htj f3 f4
                  go_wp2_with fail
                  refine HC3.out.mono ?_
                  clear HC3 hxb hxm' hxt
                  rintro e w7 ⟨rfl, hq7⟩
                  have HQ8 := Lib.hid hq7
                  clear hq7 HQ6
                  go_wp2_with fail
                  go_roundw
                  case rel => exact ⟨i + 1, by go_num, by omega, HQ8⟩
                  case measure => simp [intOf]; omega
              · obtain rfl : n1 = i := by omega
                have hx8 := read_P HQ6.out.rowP 0 hN0
                have hxy : wr.cell? ⟨w.heap.size, 0, none⟩ = some (.int .i64 y) := blk_cell HQ6.out.hc.ybf 0
                have HAG : Hid (Calls Try.prog 16 #[.pointer (some ⟨(st.map PL.g).getD 0 0, 0, none⟩), .int .i64 y] wr.drew fun e w' => e = .returned (.int .i64 y) ∧ w' = wr.drew) := Lib.hid (by
                  have h := cancel_again HQ6.out.drew.hc hy0 0 (by rw [HCN.out]; exact hN0) (by rw [HY.out]; exact hy0)
                  rw [HY.out] at h
                  exact h)
                generalize (st.map PL.g).getD 0 0 = g0 at *
                have HQ7 := Lib.hid HQ6.out.drew
                clear HQ6
                go_wp2_with fail
                go_still_tail 4, (by kernel_rfl)
                change wpList _ _ _ _ _ wr.drew
                generalize wr.drew = w5 at *
                go_wp2_with fail
                refine HAG.out.mono ?_
                clear HAG hx8 hxy
                rintro e w9 ⟨rfl, hw9⟩
                subst hw9
                have hxt : w9.cell? ⟨tb, 0, none⟩ = some (.slice (some ⟨tr, 0, none⟩) n1 ct) := blk_cell HQ7.out.hc.tbf 0
                have hxy : w9.cell? ⟨w.heap.size, 0, none⟩ = some (.int .i64 y) := blk_cell HQ7.out.hc.ybf 0
                have hxw : w9.cell? ⟨wb, 0, none⟩ = some (.bool false) := blk_cell HQ7.out.hc.wbf 0
                go_wp2_with fail
                go_loopw [23] (fun v23 wx => ∃ i : Nat, v23 = .int .i64 i ∧ i ≤ n1 ∧ wx = w9) (fun v23 _ => n1 - (intOf v23).toNat)
                case atStart => exact ⟨0, rfl, Nat.zero_le _, rfl⟩
                case round =>
                  obtain ⟨i, rfl, hi1', rfl⟩ := hrel
                  by_cases hlt : i < n1
                  · have hxm' : wr.cell? ⟨tr, i, none⟩ = some (.int .i64 (M'.getD i 0)) := (read_J HQ7.out.hc.rowT i hlt).1
                    obtain ⟨f1, f2, f3⟩ := HF3.out i hlt
                    cases htj : Tk.getD i false with
                    | false =>
                      rw [htj] at f3
                      have f4 : M'.getD i 0 = 1 := f3
                      rw [f4] at hxm'
                      clear htj f1 f2 f3 f4
                      go_wp2_with fail
                      go_roundw
                      case rel => exact ⟨i + 1, by go_num, by omega, by first | rfl | trivial⟩
                      case measure => simp [intOf]; omega
                    | true =>
                      rw [htj] at f3
                      have f4 : M'.getD i 0 = 0 := f3
                      rw [f4] at hxm'
                      clear htj f1 f2 f3 f4
                      go_wp2_with fail
                      go_roundw
                      case rel => exact ⟨i + 1, by go_num, by omega, by first | rfl | trivial⟩
                      case measure => simp [intOf]; omega
                  · have hyy : (y == y) = true := beq_self_eq_true _
                    go_wp2_with fail
                    go_ret
                    exact ⟨rfl, HQ7.out.hc.tc.below⟩
end Go.Proofs.Ytofbnoiecpmjnaa.Pr
