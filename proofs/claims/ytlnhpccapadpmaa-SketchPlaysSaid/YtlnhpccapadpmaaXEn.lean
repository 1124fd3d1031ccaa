/- (*Bars).ends. -/
import Derived.Test.YtlnhpccapadpmaaXEd
import Derived.ArgAppend
namespace Go.Proofs.Ytlnhpccapadpmaa.Pr
open Go.RowKit Go.Proofs.YtlnhpccapadpmaaW.PrintWords Go.Proofs.YtlnhpccapadpmaaW.PrintLast Go.Proofs.YtlnhpccapadpmaaW.PrintMore
set_option linter.unusedVariables false
set_option linter.unusedSimpArgs false
attribute [local go_sem high] eqA61
def d0H : Hd := ⟨none, 0, 0⟩
theorem head_form {W : World} {base n : Nat} {A : Option Addr} {c : Nat} {L : List Hd} (h : Kd.R kH 31 W base T1 (.slice A L.length c) L) (hn : n < L.length) : ∃ g, A = some ⟨g, 0, none⟩ := by
  obtain ⟨g, cap, e, _⟩ := Kd.R_form h (by omega)
  injection e with e1
  exact ⟨g, e1⟩
theorem head_at {W : World} {base n g c : Nat} {L : List Hd} (h : Kd.R kH 31 W base T1 (.slice (some ⟨g, 0, none⟩) L.length c) L) (hn : n < L.length) : W.cell? ⟨g, n, none⟩ = some (.slice L[n].A L[n].n L[n].c) := by
  rw [read_H h n hn d0H]
  simp [List.getD, hn, Hd.val]
/-- Behind the first look: the rows are written over. -/
structure PW (w W : World) (K : Nat) (hs : List Hd) (Z : Nat → List S61) (v0 v1 : Value) : Prop where
  hK : w.heap.size ≤ K
  blk : W.heap[K]? = some (.cells #[v0, v1] 54 (0, 0))
  rowL : Kd.R kH 31 W w.heap.size T1 v0 hs
  ms : MS w W hs Z
theorem BS.toP {w W : World} {K : Nat} {hs ws : List Hd} {X : Nat → List S61} {ok : Nat → Prop} {v0 v1 : Value} (h : BS w W K hs ws X ok v0 v1) : PW w W K hs X v0 v1 :=
  ⟨h.hK, h.blk, h.rowL, h.below, fun i x hx => ⟨(h.lstL i x hx).1, Kd.R_mono (h.lstL i x hx).2 (fun _ _ => trivial)⟩, h.apart⟩
def Zw (X : Nat → List S61) (n : Nat) : Nat → List S61 := fun j => if j < n then List.replicate (X j).length (mkB j) else X j
def Zi (X : Nat → List S61) (n j : Nat) : Nat → List S61 := setZ (Zw X n) n (List.replicate j (mkB n) ++ (X n).drop j)
theorem Zi_zero (X : Nat → List S61) (n : Nat) : Zi X n 0 = Zw X n := by
  funext i
  unfold Zi setZ
  by_cases h : i = n
  · subst h; rw [if_pos rfl]; simp [Zw]
  · rw [if_neg h]
theorem Zi_at (X : Nat → List S61) (n j : Nat) : Zi X n j n = List.replicate j (mkB n) ++ (X n).drop j := if_pos rfl
theorem Zi_full (X : Nat → List S61) (n : Nat) : Zi X n (X n).length = Zw X (n + 1) := by
  funext i
  unfold Zi setZ
  by_cases h : i = n
  · subst h; rw [if_pos rfl]; simp [Zw]
  · rw [if_neg h]
    unfold Zw
    by_cases h2 : i < n
    · rw [if_pos h2, if_pos (by omega)]
    · rw [if_neg h2, if_neg (by omega)]
theorem Zi_len (X : Nat → List S61) (n j : Nat) (h : j ≤ (X n).length) : (Zi X n j n).length = (X n).length := by rw [Zi_at]; simp; omega
theorem Zi_set (X : Nat → List S61) (n j : Nat) (h : j < (X n).length) : setZ (Zi X n j) n ((Zi X n j n).set j (mkB n)) = Zi X n (j + 1) := by
  funext i
  by_cases e : i = n
  · subst e
    rw [show setZ (Zi X i j) i ((Zi X i j i).set j (mkB i)) i = (Zi X i j i).set j (mkB i) from if_pos rfl, Zi_at, Zi_at, List.set_append_right _ _ (by simp), List.length_replicate, Nat.sub_self, List.drop_eq_getElem_cons h, List.set_cons_zero, List.replicate_succ', List.append_assoc]
    rfl
  · rw [show setZ (Zi X n j) n ((Zi X n j n).set j (mkB n)) i = Zi X n j i from if_neg e]
    unfold Zi setZ
    rw [if_neg e, if_neg e]
/-- One element of a row is written. -/
theorem PW.write {w W W' : World} {K n : Nat} {hs : List Hd} {Z : Nat → List S61} {v0 v1 : Value} {x : Hd} {z : List S61} {g : Nat} (h : PW w W K hs Z v0 v1) (hx : hs[n]? = some x) (hB : Below w.heap.size w W') (hR : Kd.R k61 61 W' w.heap.size T1 x.val z) (hz : z.length = (Z n).length) (hg : x.val.ownBlock = some g) (hk : W.grownBy W' (some g)) : PW w W' K hs (setZ Z n z) v0 v1 := by
  have hgt := Kd.R_typed (h.ms.lst n x hx).2 g hg
  have far : ∀ {k : Nat} {cs : Array Value} {t : TypeId}, W.heap[k]? = some (.cells cs t (0, 0)) → t ≠ 61 → W'.heap[k]? = W.heap[k]? := by
    intro k cs t hc ht
    obtain ⟨cs', hc'⟩ := hgt
    exact hk.block k (Array.getElem?_eq_some_iff.1 hc).1 (fun e => by cases e; rw [hc] at hc'; cases hc'; exact ht rfl)
  exact ⟨h.hK, (far h.blk (by decide)).trans h.blk, row_keep rfl h.rowL (fun k hkv => by obtain ⟨cs, hc⟩ := Kd.R_typed h.rowL k hkv; exact far hc (by decide)), h.ms.write hx hB hR hz (fun k h1 h2 => hk.block k h1 (by rw [← hg]; exact h2))⟩
theorem PG.look {w W : World} {K : Nat} {hs gs : List Hd} {Z : Nat → List S61} {v0 v1 v7 : Value} (h : PG w W K hs gs Z v0 v1 v7 hs.length (il hs gs)) (hZ : ∀ i, i < hs.length → ∃ m, Z i = List.replicate m (mkB i)) (q : Nat) (hq : q < (il hs gs).length) :
    ∃ n, (il hs gs)[q].n = n ∧ Kd.C k61 W (il hs gs)[q].A n (List.replicate n (mkB (q / 2))) := by
  have hl := h.g4.len
  have hL := il_len hs gs (by omega)
  have hg := il_get hs gs (by omega) (q / 2)
  obtain ⟨m, hm⟩ := hZ (q / 2) (by omega)
  have e0 : (il hs gs)[q]? = some (il hs gs)[q] := by simp [hq]
  generalize (il hs gs)[q] = x at *
  rcases (by omega : q = 2 * (q / 2) ∨ q = 2 * (q / 2) + 1) with e | e
  · rw [← e, e0] at hg
    have hr := h.g4.olds (q / 2) x (by omega) hg.1.symm
    have hc := hr.C
    obtain ⟨r1, _⟩ := hr
    rw [hm, List.length_replicate] at r1 hc
    exact ⟨m, r1, hc⟩
  · rw [← e, e0] at hg
    have hr := h.g4.news (q / 2) x hg.2.symm
    have hc := hr.C
    obtain ⟨r1, _⟩ := hr
    rw [hm, List.replicate_append_replicate, List.length_replicate] at r1 hc
    exact ⟨m + 20, r1, hc⟩
set_option maxHeartbeats 4000000 in
set_option maxRecDepth 100000 in
theorem ends_run {w W : World} {K : Nat} {hs ws : List Hd} {X : Nat → List S61} {ok : Nat → Prop} {v0 v1 : Value} (h : BS w W K hs ws X ok v0 v1) (hl : hs.length = ws.length) (hlen : hs.length ≤ 7000000000) :
    Calls Try.prog 26 #[.pointer (some ⟨K, 0, none⟩)] W fun e w' => e = .returned (.bool true) ∧ Below w.heap.size w w' := by
  have HL := Lib.hid hl
  clear hl
  obtain ⟨A0, c0, rfl⟩ := Kd.R_slice h.rowL
  obtain ⟨A1, c1, rfl⟩ := Kd.R_slice h.rowW
  have HB := Lib.hid h
  have hwl : ws.length ≤ 7000000000 := by have := HL.out; omega
  clear h
  go_enter Try.func26, Try.ntmps26
  go_upto_region 2 with (fail)
  go_loopw [3] (fun v3 wr => ∃ n : Nat, v3 = .int .i64 n ∧ n ≤ hs.length ∧ Hid (BS w wr K hs ws X ok (.slice A0 hs.length c0) (.slice A1 ws.length c1))) (fun v3 _ => hs.length - (intOf v3).toNat)
  case atStart => exact ⟨0, rfl, Nat.zero_le _, HB⟩
  case round =>
    clear HB
    obtain ⟨n, rfl, hn, HS⟩ := hrel
    have k0 := (cell_of_row _ _ 0 _ _ _ HS.out.blk).trans rfl
    have k1 := (cell_of_row _ _ 1 _ _ _ HS.out.blk).trans rfl
    by_cases hlt : n < hs.length
    · have b1 : (n : Int) < (hs.length : Int) := by omega
      have hlw : n < ws.length := by have := HL.out; omega
      have b2 : (n : Int) < (ws.length : Int) := by omega
      obtain ⟨g0, rfl⟩ := head_form HS.out.rowL hlt
      obtain ⟨g1, rfl⟩ := head_form HS.out.rowW hlw
      have q0 := fun z : Wx wr => z.cell (head_at HS.out.rowL hlt)
      have q1 := fun z : Wx wr => z.cell (head_at HS.out.rowW hlw)
      have K0 := fun z : Wx wr => z.cell k0
      have K1 := fun z : Wx wr => z.cell k1
      obtain ⟨x, hx⟩ : ∃ x, x = hs[n] := ⟨_, rfl⟩
      obtain ⟨y, hy⟩ : ∃ y, y = ws[n] := ⟨_, rfl⟩
      rw [← hx] at q0
      rw [← hy] at q1
      obtain ⟨ex, rx⟩ := HS.out.lstL n x (by rw [hx]; simp [hlt])
      obtain ⟨ey, ry⟩ := HS.out.lstW n y (by rw [hy]; simp [hlw])
      obtain ⟨_, x1, x2⟩ := Kd.R_reads' (show Kd.R k61 61 wr w.heap.size ok (.slice x.A x.n x.c) (X n) from rx)
      obtain ⟨_, y1, y2⟩ := Kd.R_reads' (show Kd.R k61 61 wr w.heap.size ok (.slice y.A y.n y.c) (X n) from ry)
      have hsh := HS.out.short n
      have C1 : Hid (∀ z : Wx wr, Calls Try.prog 21 #[.slice x.A x.n x.c, .slice y.A y.n y.c] z.W fun e w' => e = .returned (.bool true) ∧ Below z.W.heap.size z.W w') := Lib.hid (fun z => by
        have := spoorlaw13_sameBars.calls ((X n).length + 1) x.A x.c (X n) y.A y.c (X n) true z.W (Kd.C_below x2 z.h) (by rw [← ex]; exact x1) (Kd.C_below y2 z.h) (by rw [← ey]; exact y1) (Pure.same_bars (X n) (by omega) _ (Nat.lt_succ_self _))
        rw [ex, ey]
        refine this.mono ?_
        rintro e w' ⟨rfl, ⟨m, rfl⟩⟩
        exact ⟨rfl, pw_below_drewN (Below.refl _ _) _⟩)
      clear hx hy ex ey rx ry x1 x2 y1 y2 k1
      obtain ⟨xA, xn, xc⟩ := x
      obtain ⟨yA, yn, yc⟩ := y
      go_upto_region 4 with (fail)
      clear k0
      refine wp_region_ext (by kernel_rfl) (by kernel_rfl) ?_
      repeat (go_big_quiet_step (first | (go_at_call 21; with_reducible exact Calls.ext_of (C1.out _))))
      refine wpQuiet_nil ?_
      intro _ hw'
      obtain ⟨xx, rfl⟩ := hw'
      clear q0 q1 K0 K1
      go_wp2_with fail
      go_roundw
      case rel => exact ⟨n + 1, by go_num, by omega, Lib.hid (HS.out.more xx.h)⟩
      case measure => simp [intOf]; omega
    · obtain rfl : n = hs.length := by omega
      have HP := Lib.hid HS.out.toP
      have HX := Lib.hid HS.out.short
      clear HS hlt hn
      go_upto_region 8 with (fail)
      clear k0 k1
      have HP0 : Hid (PW w wr K hs (Zw X 0) (.slice A0 hs.length c0) (.slice A1 ws.length c1)) := Lib.hid (by rw [show Zw X 0 = X from by funext i; simp [Zw]]; exact HP.out)
      clear HP
      generalize wr = wp at *
      go_loopw [5] (fun v5 wr => ∃ n : Nat, v5 = .int .i64 n ∧ n ≤ hs.length ∧ Hid (PW w wr K hs (Zw X n) (.slice A0 hs.length c0) (.slice A1 ws.length c1))) (fun v5 _ => hs.length - (intOf v5).toNat)
      case atStart => exact ⟨0, rfl, Nat.zero_le _, HP0⟩
      case round =>
        clear HP0
        obtain ⟨n, rfl, hn, HS⟩ := hrel
        have k0 := (cell_of_row _ _ 0 _ _ _ HS.out.blk).trans rfl
        by_cases hlt : n < hs.length
        · have b1 : (n : Int) < (hs.length : Int) := by omega
          obtain ⟨g0, rfl⟩ := head_form HS.out.rowL hlt
          obtain ⟨x, hx⟩ : ∃ x, x = hs[n] := ⟨_, rfl⟩
          have HXN := Lib.hid (show hs[n]? = some x by rw [hx]; simp [hlt])
          have HQ := Lib.hid (show x = hs[n] from hx)
          have HS0 : Hid (PW w wr K hs (Zi X n 0) (.slice (some ⟨g0, 0, none⟩) hs.length c0) (.slice A1 ws.length c1)) := Lib.hid (by rw [Zi_zero]; exact HS.out)
          have hxl := HX.out n
          have hm0 : -(n : Int) = wrap64 (-(n : Int)) := by unfold wrap64; omega
          have HM := Lib.hid hm0
          clear hx HS hm0
          go_upto_region 11 with (fail)
          clear k0
          generalize wr = wq at *
          go_loopw [6] (fun v6 wr => ∃ j : Nat, v6 = .int .i64 j ∧ j ≤ (X n).length ∧ Hid (PW w wr K hs (Zi X n j) (.slice (some ⟨g0, 0, none⟩) hs.length c0) (.slice A1 ws.length c1))) (fun v6 _ => (X n).length - (intOf v6).toNat)
          case atStart => exact ⟨0, rfl, Nat.zero_le _, HS0⟩
          case round =>
            clear HS0
            obtain ⟨j, rfl, hj, HT⟩ := hrel
            have k0 := (cell_of_row _ _ 0 _ _ _ HT.out.blk).trans rfl
            have q0 := head_at HT.out.rowL hlt
            rw [← HQ.out] at q0
            obtain ⟨ex, rx⟩ := HT.out.ms.lst n x HXN.out
            rw [Zi_len X n j hj] at ex
            have HEX := Lib.hid ex
            clear ex
            by_cases hjl : j < (X n).length
            · have b2 : (j : Int) < (x.n : Int) := by have := HEX.out; omega
              obtain ⟨gx, cx, e1, _⟩ := Kd.R_form rx (by rw [Zi_len X n j hj]; omega)
              rw [Zi_len X n j hj] at e1
              have e2 : x.A = some ⟨gx, 0, none⟩ := by have := e1; unfold Hd.val at this; injection this
              obtain ⟨ce, hcl, hM, hcc, hfr⟩ := Kd.R_elem (show Kd.R k61 61 wr w.heap.size T1 (.slice (some ⟨gx, 0, none⟩) x.n x.c) (Zi X n j n) by rw [← e2]; exact rx) z61 (j : Int) (by omega) (by omega)
              have hM' := k61_openM hM
              have HCC := Lib.hid hcc
              have HE1 := Lib.hid e1
              have HE2 := Lib.hid e2
              have HRX := Lib.hid (show Kd.R k61 61 wr w.heap.size T1 (.slice (some ⟨gx, 0, none⟩) x.n x.c) (Zi X n j n) by rw [← e2]; exact rx)
              rw [e2] at q0
              clear e1 e2 hM hcc rx hfr
              subst hM'
              have HHI := Lib.hid (show (j : Int) < (x.n : Int) from b2)
              have HPW := Lib.hid HT.out
              go_upto_region 13 with (fail)
              go_wp2_with ((with_reducible refine gate_store (t := 61) (p := 71) rfl ?_); refine Kd.R_store k61 (w0 := w) w.heap.size rfl rfl 61 (.tmp 71) (.tmp 70) rfl 61 (g := gx) (n := x.n) (cap := x.c) (o' := j * 2) (j : Int) 0 (Zi X n j n) (mkB n) (.agg #[.int .i64 (-(n : Int)), .int .u64 0]) [.int .i64 (-(n : Int)), .int .u64 0] _ T1 (fun _ => False) (by rfl) ?so (by rfl) rfl ?st ?s1 HRX.out ?s0 ?si rfl HCC.out ?sj ?sM (fun _ h => h.elim) HPW.out.ms.below ?_; (case so => show j * 2 = (j : Int).toNat * 2 + 0; omega); (case st => kernel_rfl); (case s1 => intro q hq; simp only [List.mem_cons, List.not_mem_nil, or_false] at hq; rcases hq with rfl | rfl <;> rfl); (case s0 => omega); (case si => exact HHI.out); (case sj => exact Nat.le_refl 2); (case sM => exact k61_mkM _ _ _ (mkB n)); intro w5 d1 d2 d3; have HD1 := Lib.hid d1; have HD2 := Lib.hid d2; have HD3 := Lib.hid d3; clear d1 d2 d3)
              have hown : x.val.ownBlock = some gx := by have := HE2.out; unfold Hd.val; rw [this]; rfl
              have HF := Lib.hid (HPW.out.write (z := (Zi X n j n).set j (mkB n)) HXN.out HD2.out (by unfold Hd.val; rw [HE2.out]; exact HD1.out) (by rw [List.length_set]) hown HD3.out)
              rw [Zi_set X n j hjl] at HF
              clear hown HD1 HD2 HD3
              go_wp2_with fail
              go_roundw
              case rel => exact ⟨j + 1, by go_num, by omega, HF⟩
              case measure => simp [intOf]; omega
            · obtain rfl : j = (X n).length := by omega
              have HF : Hid (PW w wr K hs (Zw X (n + 1)) (.slice (some ⟨g0, 0, none⟩) hs.length c0) (.slice A1 ws.length c1)) := Lib.hid (by rw [← Zi_full]; exact HT.out)
              have b2 : ((X n).length : Int) = (x.n : Int) := by have := HEX.out; omega
              have HB2 := Lib.hid b2
              have b3 : ¬ ((X n).length : Int) < (x.n : Int) := by omega
              clear b2 HT
              go_wp2_with fail
              go_roundw
              case rel => exact ⟨n + 1, by go_num, by omega, HF⟩
              case measure => simp [intOf]; omega
        · obtain rfl : n = hs.length := by omega
          clear hlt hn
          go_upto_region 16 with (fail)
          clear k0
          obtain ⟨Z, hZ⟩ : ∃ Z, Z = Zw X hs.length := ⟨_, rfl⟩
          rw [← hZ] at HS
          have HZ := Lib.hid hZ
          have HG0 : Hid (PG w wr K hs [] Z (.slice A0 hs.length c0) (.slice A1 ws.length c1) (.slice none 0 0) 0 (il (hs.take 0) [])) := Lib.hid ⟨HS.out.hK, HS.out.blk, HS.out.rowL, Kd.R_nil _ _ _ _ _, (fun k _ e => by cases e), HS.out.ms.toG⟩
          clear HS hZ
          generalize wr = wp at *
          go_loopw [7, 8] (fun v7 v8 wr => ∃ (n : Nat) (gs : List Hd), v8 = .int .i64 n ∧ n ≤ hs.length ∧ Hid (PG w wr K hs gs Z (.slice A0 hs.length c0) (.slice A1 ws.length c1) v7 n (il (hs.take n) gs))) (fun _ v8 _ => hs.length - (intOf v8).toNat)
          case atStart => exact ⟨0, [], rfl, Nat.zero_le _, HG0⟩
          case round =>
            clear HG0
            obtain ⟨n, gs, rfl, hn, HS⟩ := hrel
            have k0 := (cell_of_row _ _ 0 _ _ _ HS.out.blk).trans rfl
            by_cases hlt : n < hs.length
            · have b1 : (n : Int) < (hs.length : Int) := by omega
              obtain ⟨g0, rfl⟩ := head_form HS.out.rowL hlt
              obtain ⟨x, hx⟩ : ∃ x, x = hs[n] := ⟨_, rfl⟩
              have HXN := Lib.hid (show hs[n]? = some x by rw [hx]; simp [hlt])
              have HQ := Lib.hid (show x = hs[n] from hx)
              have q0 := head_at HS.out.rowL hlt
              rw [← hx] at q0
              obtain ⟨ex, rx⟩ := HS.out.g4.later n x (Nat.le_refl _) HXN.out
              have HZL : Hid ((Z n).length ≤ 1920) := Lib.hid (by rw [HZ.out]; unfold Zw; have := HX.out n; split <;> simp <;> omega)
              have HG := Lib.hid (GS.start (p := mkB n) rx HS.out.g4.below)
              clear hx ex rx
              obtain ⟨xA, xn, xc⟩ := x
              go_upto_region 20 with (fail)
              clear k0 q0
              generalize hwn : wr = wn at *
              clear hwn
              go_loopw [9, 10] (fun v9 v10 wr => ∃ j : Nat, v10 = .int .i64 j ∧ j ≤ 20 ∧ Hid (GS w wn (⟨xA, xn, xc⟩ : Hd).val (Z n) (mkB n) j v9 wr)) (fun _ v10 _ => 20 - (intOf v10).toNat)
              case atStart => exact ⟨0, rfl, by omega, HG⟩
              case round =>
                clear HG
                obtain ⟨j, rfl, hj, HG⟩ := hrel
                by_cases hlt2 : j < 20
                · go_upto_region 22 with (fail)
                  have hu9 : (Z n ++ List.replicate j (mkB n)).length ≤ 2000 := by rw [List.length_append, List.length_replicate]; have := HZL.out; omega
                  have HU9 := Lib.hid hu9
                  clear hu9
                  go_wp2_with (at_builtin; refine R_append_kept k61 (w0 := w) w.heap.size rfl (.tmp 92) (.tmp 96) 31 61 (.agg #[(.int .i64 0), (.int .u64 0)]) 16 rfl Try.underlying31 info61' rfl (by decide) (by omega) u9 (Z n ++ List.replicate j (mkB n)) (mkB n) [.int .i64 (-(n : Int)), .int .u64 0] T1 (fun _ => False) (by rfl) (by rfl) ?aP (fun _ hk => hk.elim) ?aF ?aO ?aB ?aS ?aL ?_; (case aP => exact k61_mkM _ _ _ (mkB n)); (case aF => exact fun _ _ => trivial); (case aO => exact HG.out.row); (case aB => exact HG.out.below); (case aS => exact HG.out.below.size); (case aL => have := HU9.out; omega); intro v1 w3 ho hb hg hat; have HG3 := Lib.hid (HG.out.step ho hb hg hat); clear ho hb hg hat)
                  go_roundw
                  case rel => exact ⟨j + 1, by go_num, by omega, HG3⟩
                  case measure => simp [intOf]; omega
                · obtain rfl : j = 20 := by omega
                  obtain ⟨g, hg, hpg⟩ := HS.out.grown HXN.out HG.out
                  subst hg
                  have HPG := Lib.hid hpg
                  have hgl := hpg.g4.len
                  have HGL := Lib.hid hgl
                  have k0 := (cell_of_row _ _ 0 _ _ _ hpg.blk).trans rfl
                  have q0 := head_at hpg.rowL hlt
                  rw [← HQ.out] at q0
                  clear hpg hgl HG HS
                  obtain ⟨gA, gn, gc⟩ := g
                  have e0 : (⟨gA, gn, gc⟩ : Hd).val = .slice gA gn gc := rfl
                  rw [e0] at *
                  clear e0
                  go_upto_region 23 with (fail)
                  have HPG2 := Lib.hid (HPG.out.more (below_alloc (Below.refl wr.heap.size wr) (.cells #[.slice xA xn xc, .slice gA gn gc] 31)))
                  have hlit : Kd.C kH (wr.alloc (.cells #[.slice xA xn xc, .slice gA gn gc] 31)) (some ⟨wr.heap.size, 0, none⟩) 2 [(⟨xA, xn, xc⟩ : Hd), (⟨gA, gn, gc⟩ : Hd)] := C_heads [(⟨xA, xn, xc⟩ : Hd), (⟨gA, gn, gc⟩ : Hd)] (blk_new wr _) rfl (by simp)
                  have HLI := Lib.hid hlit
                  have hml : (il (hs.take n) gs).length = 2 * n := by rw [il_len _ _ (by rw [List.length_take]; have := HGL.out; simp at this; omega), List.length_take]; omega
                  have HML := Lib.hid hml
                  have hsn : il (hs.take n) gs ++ [(⟨xA, xn, xc⟩ : Hd), (⟨gA, gn, gc⟩ : Hd)] = il (hs.take (n + 1)) (gs ++ [(⟨gA, gn, gc⟩ : Hd)]) := by
                    rw [List.take_succ_eq_append_getElem hlt, il_snoc _ _ _ _ (by rw [List.length_take]; have := HGL.out; simp at this; omega), ← HQ.out]
                  have HSN := Lib.hid hsn
                  clear hlit hml hsn
                  go_wp2_with (at_builtin; refine Kd.R_append_row Hd.val d0H (h1 := fun _ => rfl) (w0 := w) w.heap.size rfl (.tmp 98) (.tmp 107) 52 31 (.slice none 0 0) 24 rfl Try.underlying52 infoH31 rfl (by omega) u7 (il (hs.take n) gs) [(⟨xA, xn, xc⟩ : Hd), (⟨gA, gn, gc⟩ : Hd)] (some ⟨wr.heap.size, 0, none⟩) 2 2 T1 (by rfl) (by rfl) ?bF ?bO ?bR ?bB ?bS ?bL ?_; (case bF => exact fun _ _ => trivial); (case bO => exact HPG2.out.rowM); (case bR => exact HLI.out); (case bB => exact HPG2.out.g4.below); (case bS => exact HPG2.out.g4.below.size); (case bL => rw [HML.out]; omega); intro v1 w3 ho hb hg hat; have HG3 := Lib.hid (HPG2.out.put (M' := il (hs.take (n + 1)) (gs ++ [(⟨gA, gn, gc⟩ : Hd)])) (by rw [← HSN.out]; exact ho) hb hg hat); clear ho hb hg hat)
                  go_roundw
                  case rel => exact ⟨n + 1, _, by go_num, by omega, HG3⟩
                  case measure => simp [intOf]; omega
            · obtain rfl : n = hs.length := by omega
              rw [List.take_length] at HS
              go_upto_region 25 with (fail)
              clear k0
              obtain ⟨A7, c7, e7⟩ := Kd.R_slice HS.out.rowM
              subst e7
              have hzz : ∀ i, i < hs.length → ∃ m, Z i = List.replicate m (mkB i) := fun i hi => by rw [HZ.out]; exact ⟨_, if_pos hi⟩
              have HLK := Lib.hid (HS.out.look hzz)
              have hL2 : (il hs gs).length ≤ 14000000000 := by rw [il_len hs gs HS.out.g4.len.symm]; omega
              have HRM := Lib.hid HS.out.rowM
              have HBW := Lib.hid HS.out.g4.below
              clear HS hzz
              generalize il hs gs = L at *
              go_loop [11] (fun v11 => ∃ q : Nat, v11 = .int .i64 q ∧ q ≤ L.length) (fun v11 => L.length - (intOf v11).toNat)
              case atStart => exact ⟨0, rfl, Nat.zero_le _⟩
              case round =>
                obtain ⟨q, rfl, hq⟩ := hrel
                by_cases hql : q < L.length
                · have b1 : (q : Int) < (L.length : Int) := by omega
                  obtain ⟨g7, rfl⟩ := head_form HRM.out hql
                  have q0 := head_at HRM.out hql
                  obtain ⟨m, hm, hC⟩ := HLK.out q hql
                  have HC := Lib.hid hC
                  have HM2 := Lib.hid hm
                  clear hm hC
                  obtain ⟨x, hx⟩ : ∃ x, x = L[q] := ⟨_, rfl⟩
                  rw [← hx] at q0 HC HM2
                  clear hx
                  have HJQ := Lib.hid hql
                  have q0' : wr.cell? ⟨g7, q, none⟩ = some (.slice x.A m x.c) := by rw [q0, HM2.out]
                  clear q0
                  go_upto_region 28 with (fail)
                  go_loop [12] (fun v12 => ∃ j : Nat, v12 = .int .i64 j ∧ j ≤ m) (fun v12 => m - (intOf v12).toNat)
                  case atStart => exact ⟨0, rfl, Nat.zero_le _⟩
                  case round =>
                    obtain ⟨j, rfl, hj⟩ := hrel
                    by_cases hjm : j < m
                    · have b2 : (j : Int) < (m : Int) := by omega
                      have HJ := Lib.hid hjm
                      have hmb : m ≤ 9223372036854775807 := HC.out.2.1
                      obtain ⟨ab, ao, hA, y0, y1⟩ := t61_at HC.out j hjm
                      have hrd : rd_T61 (List.replicate m (mkB (q / 2))) (j : Int) = mkB (q / 2) := by simp [rd_T61, List.getD, hjm]
                      rw [hrd] at y0 y1
                      rw [hA] at q0'
                      clear hA hrd
                      rw [show (mkB (q / 2)).f0 = -((q : Int) / 2) by show -(((q / 2 : Nat)) : Int) = _; omega] at y0
                      rw [show (mkB (q / 2)).f1 = 0 from rfl] at y1
                      go_wp2_with fail
                      go_round
                      case rel => exact ⟨j + 1, by go_num, by have := HJ.out; omega⟩
                      case measure => have := HJ.out; simp [intOf]; omega
                    · obtain rfl : j = m := by omega
                      go_wp2_with fail
                      go_round
                      case rel => exact ⟨q + 1, by go_num, by have := HJQ.out; omega⟩
                      case measure => have := HJQ.out; simp [intOf]; omega
                · obtain rfl : q = L.length := by omega
                  go_wp2_with fail
                  go_ret
                  exact ⟨rfl, HBW.out⟩
end Go.Proofs.Ytlnhpccapadpmaa.Pr
