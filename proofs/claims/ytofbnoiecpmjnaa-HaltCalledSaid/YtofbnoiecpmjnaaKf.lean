/- All functions of a list are called, those that wait still. -/
import Derived.Test.YtofbnoiecpmjnaaKe
namespace Go.Proofs.Ytofbnoiecpmjnaa.Pr
open Go.RowKit Go.Proofs.YtofbnoiecpmjnaaW.PrintWords Go.Proofs.YtofbnoiecpmjnaaW.PrintLast Go.Proofs.YtofbnoiecpmjnaaW.PrintMore Go.MuLone
open Go.Lib
set_option linter.unusedVariables false
set_option linter.unusedSimpArgs false
variable {b : Int} {w0 W : World} {m : Nat} {st : List PL} {up : List Nat} {Y : List Int} {cv : List Value} {Cs : List (List Nat)} {v : VB} {y : Int} {D : List CD} {S : Nat → Int} {M : List Int}
theorem read_Q {e base : Nat} {W : World} {go n co : Nat} {L : List Nat} (h : Kd.R kP e W base T1 (.slice (some ⟨go, 0, none⟩) n co) L) (x : Nat) (hx : x < n) :
    W.cell? ⟨go, x, none⟩ = some (.pointer (some ⟨L.getD x 0, 0, none⟩)) := by
  obtain ⟨ce, hcl, hM, hcc, hfr⟩ := Kd.R_elem h (0 : Nat) (x : Int) (by omega) (by omega)
  have hce : ce = [encP (L.getD (x : Int).toNat 0)] := hM
  subst hce
  have e1 : (x : Int).toNat * kP.sz + 0 = x := by show x * 1 + 0 = x; omega
  have h1 := hcc 0 _ rfl
  rw [e1] at h1
  exact h1
/-- How the states and the counts stand where those of a list have been called. -/
def Told (D : List CD) (S : Nat → Int) (P : List Nat) (S' : Nat → Int) (M' : List Int) : Prop :=
  ∀ (i : Nat) (d : CD), D[i]? = some d → S' i = (if S i = 0 ∧ d.q ∈ P then 1 else S i) ∧ M'.getD i 0 = (if S i = 0 ∧ d.q ∈ P then 1 else 0)
theorem Told.step {D : List CD} {S S' : Nat → Int} {P : List Nat} {M' : List Int} (h : Told D S P S' M') (hq : ∀ (i j : Nat) (d e : CD), i ≠ j → D[i]? = some d → D[j]? = some e → d.q ≠ e.q) {i : Nat} {d : CD} (hd : D[i]? = some d) (hn : d.q ∉ P) (hl : i < M'.length) :
    (S' i = 0 → Told D S (P ++ [d.q]) (setS S' i 1) (M'.set i 1)) ∧ (S' i ≠ 0 → Told D S (P ++ [d.q]) S' M') ∧ M'.getD i 0 = 0 := by
  obtain ⟨h1, h2⟩ := h i d hd
  rw [if_neg (fun e => hn e.2)] at h1 h2
  refine ⟨fun hz j e he => ?_, fun hz j e he => ?_, h2⟩
  · obtain ⟨e1, e2⟩ := h j e he
    by_cases hij : j = i
    · subst hij
      rw [hd] at he; cases he
      have hc : S j = 0 ∧ d.q ∈ P ++ [d.q] := ⟨h1.symm.trans hz, by simp⟩
      rw [if_pos hc, if_pos hc]
      exact ⟨if_pos rfl, by rw [set_getD M' j j 1 hl, if_pos rfl]⟩
    · have hne := hq j i e d hij he hd
      have hiff : (S j = 0 ∧ e.q ∈ P ++ [d.q]) ↔ (S j = 0 ∧ e.q ∈ P) := by simp [hne]
      simp only [hiff]
      exact ⟨(if_neg hij).trans e1, by rw [set_getD M' i j 1 hl, if_neg hij]; exact e2⟩
  · obtain ⟨e1, e2⟩ := h j e he
    by_cases hij : j = i
    · subst hij
      rw [hd] at he; cases he
      have hs : ¬ S j = 0 := fun e => hz (h1.trans e)
      rw [if_neg (fun e => hs e.1), if_neg (fun e => hs e.1)]
      exact ⟨h1, h2⟩
    · have hne := hq j i e d hij he hd
      have hiff : (S j = 0 ∧ e.q ∈ P ++ [d.q]) ↔ (S j = 0 ∧ e.q ∈ P) := by simp [hne]
      simp only [hiff]
      exact ⟨e1, e2⟩
def RunPost (w0 W : World) (m : Nat) (st : List PL) (up : List Nat) (Y : List Int) (cv : List Value) (Cs : List (List Nat)) (v : VB) (y : Int) (D : List CD) (S : Nat → Int) (P : List Nat) (w' : World) : Prop :=
  ∃ (S' : Nat → Int) (M' : List Int), HC 0 w0 w' m st up Y cv Cs v y D S' M' ∧ Told D S P S' M' ∧ CallsKept v W w' ∧ w'.heap.size = W.heap.size
set_option maxHeartbeats 1000000 in
set_option maxRecDepth 100000 in
theorem run_calls (h : HC 0 w0 W m st up Y cv Cs v y D S M) (k : Nat) (hk : k < st.length) (l : Value) (Lr : List Nat) (hR : Kd.R kP 87 W w0.heap.size T1 l Lr) (hsub : ∀ q ∈ Lr, ∃ (j : Nat) (d : CD), D[j]? = some d ∧ d.q = q) (hnd : Lr.Nodup) (hM : ∀ i, M.getD i 0 = 0) :
    Calls Try.prog 25 #[.pointer (some ⟨gOf st k, 0, none⟩), l, .int .i64 y] W fun e w' => e = .returned (.tuple #[]) ∧ RunPost w0 W m st up Y cv Cs v y D S Lr w' := by
  have H0 : Hid (RunPost w0 W m st up Y cv Cs v y D S [] W) := Lib.hid ⟨S, M, h, fun i d hd => by rw [if_neg (by simp), if_neg (by simp)]; exact ⟨rfl, hM i⟩, CallsKept.refl _ _, rfl⟩
  obtain ⟨A, cl, el⟩ := Kd.R_slice hR
  obtain ⟨n, hn⟩ : ∃ n, n = Lr.length := ⟨_, rfl⟩
  rw [← hn] at el
  subst el
  have hnm : n ≤ 9223372036854775807 := by
    have := (Kd.R_reads' hR).2.2.2.1
    omega
  have HR := Lib.hid hR
  have HS := Lib.hid hsub
  have HN := Lib.hid hn
  have HD := Lib.hid hnd
  have HQ := Lib.hid h.qs
  have HL := Lib.hid h.lenD
  have HTR := Lib.hid (Kd.R_typed h.rowT v.tr rfl)
  have HWB := Lib.hid h.wbf
  clear h hR hsub hn hnd hM
  go_enter Try.func25, Try.ntmps25
  go_wp2_with fail
  go_loopw [7, 10] (fun v7 v10 wr => ∃ j : Nat, v10 = .int .i64 j ∧ j ≤ n ∧ Hid (RunPost w0 W m st up Y cv Cs v y D S (Lr.take j) wr)) (fun _ v10 _ => n - (intOf v10).toNat)
  case atStart => exact ⟨0, rfl, Nat.zero_le _, H0⟩
  case round =>
    clear H0
    obtain ⟨j, rfl, hjn, HP⟩ := hrel
    by_cases hlt : j < n
    · have hjl : j < Lr.length := by rw [← HN.out]; exact hlt
      obtain ⟨S', M', h1, h2, h3, h4⟩ := HP.out
      obtain ⟨i, d, hd, hdq⟩ := HS.out Lr[j] (List.getElem_mem hjl)
      have hnotin : d.q ∉ Lr.take j := by
        rw [hdq]
        intro hmem
        obtain ⟨r, hr, e⟩ := List.getElem_of_mem hmem
        rw [List.getElem_take] at e
        have hr' : r < j := by simp at hr; omega
        exact (List.pairwise_iff_getElem.1 HD.out) r j (by omega) hjl hr' e
      have hia : i < v.a := by
        have := (List.getElem?_eq_some_iff.1 hd).1
        have := HL.out
        omega
      obtain ⟨t1, t2, t3⟩ := h2.step HQ.out hd hnotin (by rw [h1.lenM]; exact hia)
      have htk : Lr.take (j + 1) = Lr.take j ++ [d.q] := by rw [List.take_succ_eq_append_getElem hjl, hdq]
      rw [← htk] at t1 t2
      have hRr : Kd.R kP 87 wr w0.heap.size T1 (.slice A n cl) Lr := row_keep rfl HR.out (fun q hq => by
        obtain ⟨cells, hc⟩ := Kd.R_typed HR.out q hq
        refine h3 q cells 87 hc (by decide) (by decide) ?_ ?_
        · rintro rfl; obtain ⟨c', hc'⟩ := HTR.out; rw [hc] at hc'; cases hc'
        · rintro rfl; have := HWB.out; rw [hc] at this; cases this)
      obtain ⟨go, co, e8, _⟩ := Kd.R_form hRr (by omega)
      rw [← HN.out] at e8
      cases e8
      have hrd := read_Q hRr j hlt
      have e1 : Lr.getD j 0 = d.q := by rw [hdq]; simp [List.getD, hjl]
      rw [e1] at hrd
      have HT := Lib.hid (take_run h1 hd k hk 1)
      have H3 := Lib.hid h3
      have H4 := Lib.hid h4
      have HT1 := Lib.hid t1
      have HT2 := Lib.hid t2
      have HT3 := Lib.hid t3
      have HDD := Lib.hid hd
      have HM1 := Lib.hid h1.tc.mu
      obtain ⟨x1, _⟩ := h1.calls i d hd
      have HX1 := Lib.hid x1
      have HHC := Lib.hid h1
      clear h1 h2 h3 h4 hd hdq hnotin t1 t2 t3 htk hRr e1 HP x1
      generalize hgk : gOf st k = gk at *
      by_cases hz : S' i = 0
      · rw [hz] at HT
        have HT' : Hid (Calls Try.prog 39 #[.pointer (some ⟨gk, 0, none⟩), .pointer (some ⟨d.q, 0, none⟩), .int .i64 1] wr fun e w' => e = .returned (.bool true) ∧ HC 0 w0 w' m st up Y cv Cs v y D (setS S' i 1) M' ∧ (∀ q, q ≠ m → q ≠ d.q → w'.heap[q]? = wr.heap[q]?) ∧ w'.heap.size = wr.heap.size) := Lib.hid (by
          have h := HT.out
          rw [if_pos rfl] at h
          exact h)
        have HZ := Lib.hid hz
        clear hz HT
        generalize hdq : d.q = dq at *
        go_wp2_with fail
        refine HT'.out.mono ?_
        clear HT' hrd
        rintro e w5 ⟨rfl, g1, g2, g3⟩
        obtain ⟨x5, _⟩ := g1.calls i d HDD.out
        have z5 : w5.cell? ⟨dq, 0, none⟩ = some (cloV v d.ib) := by rw [← hdq]; exact blk_cell x5 0
        have HC5 := Lib.hid (clo_run g1 HDD.out hia HT3.out)
        have HG2 := Lib.hid (And.intro g2 g3)
        clear g1 g2 g3 x5
        unfold cloV ptrOf at z5
        unfold ptrOf at HC5
        have HDQ := Lib.hid hdq
        clear hdq
        go_wp2_with fail
        refine HC5.out.mono ?_
        clear HC5 z5
        rintro e w6 ⟨rfl, g4, g5, g6⟩
        have HJ : Hid (RunPost w0 W m st up Y cv Cs v y D S (Lr.take (j + 1)) w6) := Lib.hid ⟨_, _, g4, HT1.out HZ.out, H3.out.trans (fun q cells t hq a1 a2 a3 a4 => by
          rw [g5 q a3 a4, HG2.out.1 q (by rintro rfl; have := HM1.out; rw [hq] at this; cases this; exact a2 rfl) (by
            rintro rfl; have := HX1.out; rw [hq] at this; cases this; exact a1 rfl)]), by rw [g6, HG2.out.2, H4.out]⟩
        clear g4 g5 g6 HG2
        go_wp2_with fail
        go_roundw
        case rel => exact ⟨j + 1, by go_num, by omega, HJ⟩
        case measure => simp [intOf]; omega
      · have hb2 : (S' i == 0) = false := beq_eq_false_iff_ne.mpr hz
        have HT' : Hid (Calls Try.prog 39 #[.pointer (some ⟨gk, 0, none⟩), .pointer (some ⟨d.q, 0, none⟩), .int .i64 1] wr fun e w' => e = .returned (.bool false) ∧ HC 0 w0 w' m st up Y cv Cs v y D S' M' ∧ (∀ q, q ≠ m → q ≠ d.q → w'.heap[q]? = wr.heap[q]?) ∧ w'.heap.size = wr.heap.size) := Lib.hid (by
          have h := HT.out
          rw [if_neg hz, hb2] at h
          exact h)
        have HZ := Lib.hid hz
        clear hz HT hb2
        generalize hdq : d.q = dq at *
        have HDQ := Lib.hid hdq
        clear hdq
        go_wp2_with fail
        refine HT'.out.mono ?_
        clear HT' hrd
        rintro e w5 ⟨rfl, g1, g2, g3⟩
        have HJ : Hid (RunPost w0 W m st up Y cv Cs v y D S (Lr.take (j + 1)) w5) := Lib.hid ⟨_, _, g1, HT2.out HZ.out, H3.out.trans (fun q cells t hq a1 a2 a3 a4 => by
          rw [g2 q (by rintro rfl; have := HM1.out; rw [hq] at this; cases this; exact a2 rfl) (by
            rintro rfl; have := HX1.out; rw [hq] at this; cases this; exact a1 rfl)]), by rw [g3, H4.out]⟩
        clear g1 g2 g3
        go_wp2_with fail
        go_roundw
        case rel => exact ⟨j + 1, by go_num, by omega, HJ⟩
        case measure => simp [intOf]; omega
    · obtain rfl : j = n := by omega
      go_wp2_with fail
      go_end0
      refine ⟨rfl, ?_⟩
      have h := HP.out
      rw [HN.out, List.take_length] at h
      exact h
end Go.Proofs.Ytofbnoiecpmjnaa.Pr
