/- (*Store).room: the walk. -/
import Derived.Test.YthdkgilpnkabmaaGreatDoorSr
import Derived.IntWalk
import Derived.Test.YthdkgilpnkabmaaGreatDoorRn
namespace Go.Proofs.YthdkgilpnkabmaaGreatDoor.Pr
open Go Go.RowKit Go.Proofs.YthdkgilpnkabmaaGreatDoorW.PrintWords Go.Proofs.YthdkgilpnkabmaaGreatDoorW.PrintMore
open Go.Maps (Keyed)
open Rm Ps
set_option linter.unusedVariables false
set_option linter.unusedSimpArgs false
def RoomRel (w wr : World) (L l : List Sp) (fB mB k : Nat) (Mo : List (Tr × Int)) : Prop :=
  IsF wr fB (ones (freshN nmS L (l.take k))) ∧ IsM wr mB Mo ∧ MoreOK (freshN nmS L (l.take k)) Mo ∧ Below w.heap.size w wr
theorem take_rd {l : List Sp} {k : Nat} (h : k < l.length) : l.take (k + 1) = l.take k ++ [rdS l k] := by
  rw [List.take_succ_eq_append_getElem h, rdS_at h]
theorem room_same {w wr : World} {L l : List Sp} {fB mB k : Nat} {Mo : List (Tr × Int)} {x : Sp} {fr : List Nm} (h1 : l.take (k + 1) = l.take k ++ [x]) (h2 : freshN nmS L (l.take k ++ [x]) = freshStep nmS L fr x) (h3 : fr = freshN nmS L (l.take k))
    (h4 : (getL nmS L (nmS x)).isSome = true ∨ nmS x ∈ fr) (hF : IsF wr fB (ones fr)) (hM : IsM wr mB Mo) (hO : MoreOK fr Mo) (hW : Below w.heap.size w wr) : RoomRel w wr L l fB mB (k + 1) Mo := by
  have e : freshN nmS L (l.take (k + 1)) = fr := by
    rw [h1, h2]
    unfold freshStep
    rw [if_pos]
    rcases h4 with h4 | h4 <;> simp [h4]
  unfold RoomRel
  rw [e]
  exact ⟨hF, hM, hO, hW⟩
theorem room_more {w wr : World} {L l : List Sp} {fB mB k : Nat} {Mo : List (Tr × Int)} {x : Sp} {fr : List Nm} (h1 : l.take (k + 1) = l.take k ++ [x]) (h2 : freshN nmS L (l.take k ++ [x]) = freshStep nmS L fr x)
    (h4 : (getL nmS L (nmS x)).isSome = false) (h5 : nmS x ∉ fr) (hF : IsF wr fB (setM (ones fr) (nmS x) 1)) (hM : IsM wr mB (setM Mo (tr x) ((getM Mo (tr x)).getD 0 + 1))) (hO : MoreOK fr Mo) (hn : (Mo.map Prod.fst).Nodup) (hW : Below w.heap.size w wr) :
    RoomRel w wr L l fB mB (k + 1) (setM Mo (tr x) ((getM Mo (tr x)).getD 0 + 1)) := by
  have e : freshN nmS L (l.take (k + 1)) = fr ++ [nmS x] := by
    rw [h1, h2]
    unfold freshStep
    rw [if_neg]
    simp [h4, h5]
  have e2 : setM (ones fr) (nmS x) 1 = ones (fr ++ [nmS x]) := by
    unfold setM
    rw [ones_get, if_neg h5]
    simp [ones]
  unfold RoomRel
  rw [e, ← e2]
  exact ⟨hF, hM, hO.step hn (nmS x), hW⟩
theorem len_nil' (w : World) (ty : TypeId) : (Builtin.len_ #[79] ty #[.map none]).run Tryz.prog w = .ok (.int .i64 0) w := by
  simp [Builtin.len_, run_underlying Tryz.underlying79, Result.andThen, goInt]
theorem Book.lens {w : World} {base s : Nat} {F : Nat → Prop} {L : List Sp} {tb : Nat} {T : List (Tr × Nat)} {I : Nat → List (Int × (Sp × List Value))} (B : Book w base s F L tb T I) (t : Tr) {kl : Lit} (hk : keyOf Tryz.prog 33 (mkTr t) = some kl) :
    ∃ vT : Value, ∀ V, Below w.heap.size w V → (Instr.lookup 74 (.map (some tb)) (.agg #[.int .u64 t.1, .int .u64 t.2]) false).run Tryz.prog V = .ok vT V ∧
      ∀ ty, (Builtin.len_ #[79] ty #[vT]).run Tryz.prog V = .ok (.int .i64 (cntT (L.map nmS) t)) V := by
  cases hT : getM T t with
  | none =>
    refine ⟨.map none, fun V hV => ⟨(B.traces.below hV).look_none keyTr Tryz.underlying74 (zero_tr _) false hk mkTr_inj hT, fun ty => ?_⟩⟩
    rw [B.count_none hT]
    exact len_nil' _ _
  | some b =>
    refine ⟨.map (some b), fun V hV => ⟨(B.traces.below hV).look_some keyTr Tryz.underlying74 (zero_tr _) false hk mkTr_inj hT, fun ty => ?_⟩⟩
    rw [← B.count hT]
    exact ((B.inner _ (getM_mem hT)).below hV).len Tryz.underlying79 ty
def fineP (L : List Sp) (p : Tr × Int) : Prop := ¬ (1000 < (cntT (L.map nmS) p.1 : Int) + p.2)
theorem room_91 {L l : List Sp} {Mo : List (Tr × Int)} (hO : MoreOK (freshN nmS L l) Mo) {p : Tr × Int} (hp : p ∈ Mo) (h : 1000 < (cntT (L.map nmS) p.1 : Int) + p.2) : roomF nmS L l = 91 := by
  obtain ⟨h1, h2⟩ := hO.1 p hp
  have : ∃ n ∈ freshN nmS L l, n.1 = p.1 := by
    have h3 : 0 < cntT (freshN nmS L l) p.1 := by omega
    unfold cntT at h3
    obtain ⟨n, hn⟩ := List.exists_mem_of_length_pos h3
    obtain ⟨h4, h5⟩ := List.mem_filter.1 hn
    exact ⟨n, h4, of_decide_eq_true h5⟩
  obtain ⟨n, hn, hne⟩ := this
  unfold roomF
  rw [if_pos]
  refine List.any_eq_true.2 ⟨n, hn, decide_eq_true ?_⟩
  rw [hne]
  omega
theorem room_fine {L l : List Sp} {Mo : List (Tr × Int)} (hO : MoreOK (freshN nmS L l) Mo) (h : ∀ p ∈ Mo, fineP L p) : roomF nmS L l = if 100000 < L.length + (freshN nmS L l).length then 92 else 0 := by
  unfold roomF
  rw [if_neg]
  intro hc
  obtain ⟨n, hn, hd⟩ := List.any_eq_true.1 hc
  have hd := of_decide_eq_true hd
  have h1 := hO.2 n hn
  cases hg : getM Mo n.1 with
  | none => exact h1 hg
  | some v =>
    have h2 := getM_mem hg
    have h3 := h _ h2
    have h4 := (hO.1 _ h2).1
    unfold fineP at h3
    simp only at h3 h4
    omega
def RoomPost (w : World) (L l : List Sp) (e : Ending) (w' : World) : Prop := e = .returned (.int .i64 (roomF nmS L l)) ∧ Below w.heap.size w w'
set_option maxHeartbeats 8000000 in
set_option maxRecDepth 100000 in
theorem room_run (w : World) (base s : Nat) (F : Nat → Prop) (L : List Sp) (B : StoreAt w base s F L) (A : Option Addr) (c : Nat) (l : List Sp) (hr : Kd.C kSp w A l.length l) (hok : ∀ x ∈ l, okSp x) (hl : l.length ≤ 140737488351232) :
    Calls Tryz.prog 39 #[.pointer (some ⟨s, 0, none⟩), .slice A l.length c] w (RoomPost w L l) := by
  obtain ⟨tb, T, I, B⟩ := B
  have HB := Lib.hid B
  have HR := Lib.hid hr
  have HOK := Lib.hid hok
  clear B hr hok
  have hmm := @run_makeMap Tryz.prog
  go_enter Tryz.func39, Tryz.ntmps39
  go_wp2_with fail
  have hb1 := below_alloc (below_alloc (Below.refl w.heap.size w) (.map #[] 0)) (.map #[] 0)
  have HF0 := Lib.hid ((MapIs.made w Tryz.prog 118 mkNm (Value.int .i64)).below (below_alloc (Below.refl _ _) (.map #[] 0)))
  have HM0 := Lib.hid (MapIs.made (w.alloc (.map #[] 0)) Tryz.prog 33 mkTr (Value.int .i64))
  rw [World.size_alloc] at HM0
  have HB1 := Lib.hid hb1
  clear hb1
  go_loopw [18] (fun v18 wr => ∃ (k : Nat) (Mo : List (Tr × Int)), v18 = .int .i64 k ∧ k ≤ l.length ∧ Hid (RoomRel w wr L l w.heap.size (w.heap.size + 1) k Mo)) (fun v18 _ => l.length - (intOf v18).toNat)
  case atStart => exact ⟨0, [], rfl, Nat.zero_le _, Lib.hid ⟨HF0.out, HM0.out, MoreOK.nil, HB1.out⟩⟩
  case round =>
    obtain ⟨k, Mo, rfl, hk, HRel⟩ := hrel
    by_cases hlt : k < l.length
    · have hlk : (k : Int) < (l.length : Int) := by omega
      obtain ⟨ab, ao, rfl, hab, A4, c4, A11, c11, A12, c12, hK, hx⟩ := spRow HR.out k hlt
      have HX := Lib.hid (HOK.out _ (rdS_mem hlt))
      have HTK := Lib.hid (take_rd hlt)
      have hW := HRel.out.2.2.2
      have hx' : ∀ i u, (cSp (rdS l k) (.slice A4 (rdS l k).f3.length c4) (.slice A11 (rdS l k).f10.length c11) (.slice A12 (rdS l k).f11.length c12))[i]? = some u → wr.cell? ⟨ab, ao + k * 13 + i, none⟩ = some u := fun i u hi => pw_cell_below hW (hx i u hi)
      generalize rdS l k = x at *
      obtain ⟨⟨hi, lo⟩, id, par, lk, sv, op, kd, st, s0, s1, la, le⟩ := x
      dsimp only [cSp] at hx'
      have x0 := hx' 0 _ rfl
      have x1 := hx' 1 _ rfl
      have x2 := hx' 2 _ rfl
      have x3 := hx' 3 _ rfl
      have x4 := hx' 4 _ rfl
      have x5 := hx' 5 _ rfl
      have x6 := hx' 6 _ rfl
      have x7 := hx' 7 _ rfl
      have x8 := hx' 8 _ rfl
      have x9 := hx' 9 _ rfl
      have x10 := hx' 10 _ rfl
      have x11 := hx' 11 _ rfl
      have x12 := hx' 12 _ rfl
      have hab' : ab < wr.heap.size := Nat.lt_of_lt_of_le hab hW.size
      have HW := Lib.hid hW
      simp only [Nat.add_zero] at x0
      clear hx hx' hK hW
      obtain ⟨vT, a0, a1, a2, a3, B4, n4, m4, t5, t6, a7, a8, a9, a10, B11, n11, m11, B12, n12, m12, hask⟩ := (HB.out.below HW.out).asks (hi, lo) id HX.out.2.2.2.1 HX.out.2.2.2.2.1 HX.out.2.2.2.2.2
      obtain ⟨th, hth⟩ : ∃ th, Hid (th = (getL nmS L ((hi, lo), id)).isSome) := ⟨_, rfl⟩
      rw [← hth.out] at hask
      have HA := Lib.hid hask
      clear hask
      go_upto_region 7 with (fail)
      have hb2 := below_alloc (below_alloc (Below.refl wr.heap.size wr) (.cells #[.int .u64 hi, .int .u64 lo, .int .u64 id, .int .u64 par, .slice A4 lk.length c4, .string sv, .string op, .int .i64 kd, .int .i64 st, .int .i64 s0, .int .i64 s1, .slice A11 la.length c11, .slice A12 le.length c12] 41)) (.cells #[.int .u64 hi, .int .u64 lo, .int .u64 id] 118)
      have g1 := blk_alloc (blk_new wr (.cells #[.int .u64 hi, .int .u64 lo, .int .u64 id, .int .u64 par, .slice A4 lk.length c4, .string sv, .string op, .int .i64 kd, .int .i64 st, .int .i64 s0, .int .i64 s1, .slice A11 la.length c11, .slice A12 le.length c12] 41)) (.cells #[.int .u64 hi, .int .u64 lo, .int .u64 id] 118)
      have g2 := blk_new (wr.alloc (.cells #[.int .u64 hi, .int .u64 lo, .int .u64 id, .int .u64 par, .slice A4 lk.length c4, .string sv, .string op, .int .i64 kd, .int .i64 st, .int .i64 s0, .int .i64 s1, .slice A11 la.length c11, .slice A12 le.length c12] 41)) (.cells #[.int .u64 hi, .int .u64 lo, .int .u64 id] 118)
      rw [World.size_alloc] at g2
      generalize (wr.alloc (.cells #[.int .u64 hi, .int .u64 lo, .int .u64 id, .int .u64 par, .slice A4 lk.length c4, .string sv, .string op, .int .i64 kd, .int .i64 st, .int .i64 s0, .int .i64 s1, .slice A11 la.length c11, .slice A12 le.length c12] 41)).alloc (.cells #[.int .u64 hi, .int .u64 lo, .int .u64 id] 118) = w2 at *
      have HW2 := Lib.hid (HW.out.trans (hb2.mono HW.out.size))
      have HR2 := Lib.hid hb2
      have G1 := Lib.hid g1
      have G2 := Lib.hid g2
      have hc0 := (cell_of_row _ _ 0 _ _ _ (HB.out.below HW2.out).cell).trans rfl
      have q0 := (cell_of_row _ _ 0 _ _ _ g1).trans rfl
      have q1 := (cell_of_row _ _ 1 _ _ _ g1).trans rfl
      have q2 := (cell_of_row _ _ 2 _ _ _ g1).trans rfl
      have hA1 := HA.out w2.drew (hb2.trans ((drew_below w2).mono hb2.size))
      have hA2 := fun o => HA.out (w2.alloc o).drew (hb2.trans ((below_drew (below_alloc (Below.refl _ _) o)).mono hb2.size))
      have e1 := hA1.1
      have e2 := hA1.2
      have e3 := fun o => (hA2 o).1
      have e4 := fun o => (hA2 o).2
      have hzs := blk_lt (HB.out.below HW2.out).cell
      have hz1 := blk_lt g1
      have hz2 := blk_lt g2
      clear hA1 hA2 hb2 g1 g2 x0 x1 x2 x3 x4 x5 x6 x7 x8 x9 x10 x11 x12
      go_big_region
      clear e1 e2 e3 e4 hc0 q0 q1 q2
      have hb3 := below_drew (below_alloc (Below.refl w2.heap.size w2) (.cells #[.int .u64 a0, .int .u64 a1, .int .u64 a2, .int .u64 a3, .slice B4 n4 m4, .string t5, .string t6, .int .i64 a7, .int .i64 a8, .int .i64 a9, .int .i64 a10, .slice B11 n11 m11, .slice B12 n12 m12] 41))
      generalize (w2.alloc (.cells #[.int .u64 a0, .int .u64 a1, .int .u64 a2, .int .u64 a3, .slice B4 n4 m4, .string t5, .string t6, .int .i64 a7, .int .i64 a8, .int .i64 a9, .int .i64 a10, .slice B11 n11 m11, .slice B12 n12 m12] 41)).drew = w3 at *
      have HW3 := Lib.hid (HW2.out.trans (hb3.mono HW2.out.size))
      have HR3 := Lib.hid (HR2.out.trans (hb3.mono HR2.out.size))
      have G3 := Lib.hid (blk_below G1.out hb3)
      have N3 := Lib.hid (blk_below G2.out hb3)
      have HF3 := Lib.hid (HRel.out.1.below HR3.out)
      have HM3 := Lib.hid (HRel.out.2.1.below HR3.out)
      have HMO := Lib.hid HRel.out.2.2.1
      clear hb3 HR2 G1 G2 HW2 hzs hz1 hz2
      obtain ⟨kn, hkn⟩ := keyNm_mk (n := ((hi, lo), id)) HX.out.2.2.2.1 HX.out.2.2.2.2.1 HX.out.2.2.2.2.2
      obtain ⟨kt, hkt⟩ := keyTr_mk (t := (hi, lo)) HX.out.2.2.2.1 HX.out.2.2.2.2.1
      have HKN := Lib.hid hkn
      have HKT := Lib.hid hkt
      clear hkn hkt
      have HFS := Lib.hid (freshN_snoc (nm := nmS) L (l.take k) ⟨⟨hi, lo⟩, id, par, lk, sv, op, kd, st, s0, s1, la, le⟩)
      obtain ⟨fr, hfr⟩ : ∃ fr, Hid (fr = freshN nmS L (l.take k)) := ⟨_, rfl⟩
      rw [← hfr.out] at HF3 HMO HFS
      cases th with
      | true =>
        go_wp2_with fail
        go_roundw
        case rel => exact ⟨k + 1, Mo, by go_num, by omega, Lib.hid (room_same HTK.out HFS.out hfr.out (Or.inl hth.out.symm) HF3.out HM3.out HMO.out HW3.out)⟩
        case measure => simp [intOf]; omega
      | false =>
        by_cases hin : (((hi, lo), id) : Nm) ∈ fr
        · have e5 : (Instr.lookup 115 (.map (some w.heap.size)) (.agg #[.int .u64 hi, .int .u64 lo, .int .u64 id]) false).run Tryz.prog w3 = .ok (.int .i64 1) w3 :=
            HF3.out.look_some keyNm Tryz.underlying115 (zero_in _) false HKN.out mkNm_inj ((ones_get _ _).trans (if_pos hin))
          have n0 := (cell_of_row _ _ 0 _ _ _ N3.out).trans rfl
          have n1 := (cell_of_row _ _ 1 _ _ _ N3.out).trans rfl
          have n2 := (cell_of_row _ _ 2 _ _ _ N3.out).trans rfl
          have HIN := Lib.hid hin
          clear hin
          go_wp2_with fail
          go_roundw
          case rel => exact ⟨k + 1, Mo, by go_num, by omega, Lib.hid (room_same HTK.out HFS.out hfr.out (Or.inr HIN.out) HF3.out HM3.out HMO.out HW3.out)⟩
          case measure => simp [intOf]; omega
        · have e5 : (Instr.lookup 115 (.map (some w.heap.size)) (.agg #[.int .u64 hi, .int .u64 lo, .int .u64 id]) false).run Tryz.prog w3 = .ok (.int .i64 0) w3 :=
            HF3.out.look_none keyNm Tryz.underlying115 (zero_in _) false HKN.out mkNm_inj ((ones_get _ _).trans (if_neg hin))
          have n0 := (cell_of_row _ _ 0 _ _ _ N3.out).trans rfl
          have n1 := (cell_of_row _ _ 1 _ _ _ N3.out).trans rfl
          have n2 := (cell_of_row _ _ 2 _ _ _ N3.out).trans rfl
          have HIN := Lib.hid hin
          clear hin
          go_wp2_with fail
          have hd3 := drew_below w3
          obtain ⟨w4, st, hrun, hI4, hg4, hs4, hst⟩ := (HF3.out.below hd3).entry keyNm Tryz.underlying115 (zv := (0 : Int)) zero_in HKN.out mkNm_inj
          obtain ⟨w5, hrun2, hI5, hg5, hs5⟩ := hst 1
          rw [ones_get, if_neg HIN.out] at hrun hI4
          have hm1 : (Instr.mapEntry 115 (.map (some w.heap.size)) (.agg #[.int .u64 hi, .int .u64 lo, .int .u64 id])).run Tryz.prog w3.drew = .ok (.tuple #[.int .i64 0, .int .i64 st]) w4 := hrun
          have hm2 : (Instr.entryStore 115 (.map (some w.heap.size)) (.int .i64 st) (.int .i64 1)).run Tryz.prog w4 = .ok () w5 := hrun2
          have e6 : (Instr.lookup 115 (.map (some w.heap.size)) (.agg #[.int .u64 hi, .int .u64 lo, .int .u64 id]) false).run Tryz.prog w3.drew = .ok (.int .i64 0) w3.drew :=
            (HF3.out.below hd3).look_none keyNm Tryz.underlying115 (zero_in _) false HKN.out mkNm_inj ((ones_get _ _).trans (if_neg HIN.out))
          have e7 : (Instr.lookup 115 (.map (some w.heap.size)) (.agg #[.int .u64 hi, .int .u64 lo, .int .u64 id]) false).run Tryz.prog w4 = .ok (.int .i64 0) w4 :=
            hI4.look_some keyNm Tryz.underlying115 (zero_in _) false HKN.out mkNm_inj (by rw [get_set HF3.out.nodup]; simp)
          have HI5 := Lib.hid hI5
          have HG35 := Lib.hid (show w3.grownBy w5 (some w.heap.size) from (grown_of_below hd3 (some w.heap.size)).andThen (hg4.andThen hg5 (fun j h => Or.inr h)) (fun j h => Or.inr h))
          clear hrun hrun2 hI4 hg4 hs4 hst hI5 hg5 hs5 hd3 e5
          go_big_region
          clear hm1 hm2 e6 e7 n0 n1 n2
          have hzm := HRel.out.2.1.lt
          have G5 := Lib.hid (blk_grown G3.out HG35.out (fun e => by have := Option.some.inj e; omega))
          have HM5 := Lib.hid (HM3.out.kept HG35.out (fun e => by have := Option.some.inj e; omega))
          have m0 := (cell_of_row _ _ 0 _ _ _ G5.out).trans rfl
          have m1 := (cell_of_row _ _ 1 _ _ _ G5.out).trans rfl
          have hd5 := drew_below w5
          obtain ⟨w6, st6, hrun, hI6, hg6, hs6, hst⟩ := (HM5.out.below hd5).entry keyTr Tryz.underlying116 (zv := (0 : Int)) zero_in HKT.out mkTr_inj
          have hcur := HMO.out.cur (hi, lo)
          have hcle := cnt_le fr (hi, lo)
          have hfl : fr.length ≤ k := by
            have h1 := len_sub (a := fr) (b := (l.take k).map nmS) (by rw [hfr.out]; exact nodup_fresh _ _) (fun n hn => (mem_fresh.1 (by rw [← hfr.out]; exact hn)).1)
            rw [List.length_map, List.length_take] at h1
            omega
          obtain ⟨cur, hcu⟩ : ∃ cur : Int, cur = (getM Mo (hi, lo)).getD 0 := ⟨_, rfl⟩
          have hc1 : 0 ≤ cur := by omega
          have hc2 : cur ≤ 140737488351232 := by omega
          obtain ⟨w7, hrun2, hI7, hg7, hs7⟩ := hst (cur + 1)
          rw [← hcu] at hrun hI6
          have hm1 : (Instr.mapEntry 116 (.map (some (w.heap.size + 1))) (.agg #[.int .u64 hi, .int .u64 lo])).run Tryz.prog w5.drew = .ok (.tuple #[.int .i64 cur, .int .i64 st6]) w6 := hrun
          have hm2 : (Instr.entryStore 116 (.map (some (w.heap.size + 1))) (.int .i64 st6) (.int .i64 (cur + 1))).run Tryz.prog w6 = .ok () w7 := hrun2
          have hlook : ∀ V, IsM V (w.heap.size + 1) Mo → (Instr.lookup 116 (.map (some (w.heap.size + 1))) (.agg #[.int .u64 hi, .int .u64 lo]) false).run Tryz.prog V = .ok (.int .i64 cur) V := fun V hV => by
            cases hg : getM Mo (hi, lo) with
            | none =>
              have h0 : cur = 0 := by rw [hcu, hg]; rfl
              rw [h0]
              exact hV.look_none keyTr Tryz.underlying116 (zero_in _) false HKT.out mkTr_inj hg
            | some v =>
              have h0 : cur = v := by rw [hcu, hg]; rfl
              rw [h0]
              exact hV.look_some keyTr Tryz.underlying116 (zero_in _) false HKT.out mkTr_inj hg
          have e6 := hlook w5.drew (HM5.out.below hd5)
          have e7 : (Instr.lookup 116 (.map (some (w.heap.size + 1))) (.agg #[.int .u64 hi, .int .u64 lo]) false).run Tryz.prog w6 = .ok (.int .i64 cur) w6 :=
            hI6.look_some keyTr Tryz.underlying116 (zero_in _) false HKT.out mkTr_inj (by rw [get_set HM5.out.nodup]; simp)
          rw [hcu] at hI7
          have HI7 := Lib.hid hI7
          have HG57 := Lib.hid (show w5.grownBy w7 (some (w.heap.size + 1)) from (grown_of_below hd5 (some (w.heap.size + 1))).andThen (hg6.andThen hg7 (fun j h => Or.inr h)) (fun j h => Or.inr h))
          have hwr : IntKind.i64.wrap (cur + 1) = cur + 1 := IntWalk.i64_in _ (by omega)
          clear hrun hrun2 hI6 hg6 hs6 hst hI7 hg7 hs7 hd5 hlook hcur hcle hfl hcu
          go_wp2_with fail
          go_big_region
          go_wp2_with fail
          clear hm1 hm2 e6 e7 m0 m1 hwr
          go_roundw
          case rel =>
            refine ⟨k + 1, _, by go_num, by omega, Lib.hid (room_more HTK.out HFS.out hth.out.symm HIN.out (HI5.out.kept HG57.out (fun e => by have := Option.some.inj e; omega)) HI7.out HMO.out HM3.out.nodup ?_)⟩
            exact (HW3.out.grown HG35.out HW3.out.size (fun j h => by cases h; exact Nat.le_refl _)).grown HG57.out (Nat.le_trans HW3.out.size HG35.out.size) (fun j h => by cases h; omega)
          case measure => simp [intOf]; omega
    · obtain rfl : k = l.length := by omega
      obtain ⟨wo, rfl⟩ : ∃ wo : World, wo = wr := ⟨_, rfl⟩
      have hlk : ¬ (l.length : Int) < (l.length : Int) := by omega
      obtain ⟨w1, hrun, hrg, hg1, hs1⟩ := HRel.out.2.1.range Tryz.underlying116
      have HRG := Lib.hid hrg
      have HB1 := Lib.hid (HRel.out.2.2.2.grown hg1 HRel.out.2.2.2.size (fun j h => by cases h))
      have HF1 := Lib.hid (HRel.out.1.kept hg1 (by simp))
      have HMO := Lib.hid HRel.out.2.2.1
      have HZ1 := Lib.hid (show w.heap.size + 1 < wo.heap.size from HRel.out.2.1.lt)
      rw [List.take_length] at HMO HF1
      clear hrg hg1 hs1 HRel
      go_wp2_with fail
      clear hrun hlk
      go_loopw [13] (fun v13 w2 => ∃ Lf, Hid (RangeIs w2 Tryz.prog 33 mkTr (Value.int .i64) (w.heap.size + 1) wo.heap.size Mo Lf) ∧ Hid (∀ p ∈ Mo, p ∈ Lf ∨ fineP L p) ∧ Hid (IsF w2 w.heap.size (ones (freshN nmS L l))) ∧ Hid (Below w.heap.size w w2)) (fun _ w2 => w2.rangeLeft (w.heap.size + 1) wo.heap.size)
      case atStart => exact ⟨Mo, HRG, Lib.hid (fun p hp => Or.inl hp), HF1, HB1⟩
      case round =>
        obtain ⟨Lf, HG, HFr, HFI, HW2⟩ := hrel
        have hleft := HG.out.left_eq
        go_wp2_with (at_next; refine wpList_next_is _ rfl _ rfl 33 mkTr (Value.int .i64) (w.heap.size + 1) wo.heap.size Mo Lf rfl HG.out ?_ ?_)
        · intro hLf
          subst hLf
          have HPU := Lib.hid (room_fine HMO.out (fun p hp => (HFr.out p hp).resolve_left (by simp)))
          have HB2 := Lib.hid (HB.out.below HW2.out)
          have hsm := HB2.out.small
          have hfl : (freshN nmS L l).length ≤ l.length := by
            have h1 := len_sub (nodup_fresh (nm := nmS) L l) (fun n hn => (mem_fresh.1 hn).1)
            rwa [List.length_map] at h1
          have hw : IntKind.i64.wrap ((L.length : Int) + ((freshN nmS L l).length : Int)) = (L.length : Int) + ((freshN nmS L l).length : Int) := IntWalk.i64_in _ (by omega)
          have p0 := fun z : Wx wr => z.cell ((cell_of_row _ _ 1 _ _ _ HB2.out.cell).trans rfl)
          have hln : ∀ (z : Wx wr) (ty : TypeId), (Builtin.len_ #[115] ty #[.map (some w.heap.size)]).run Tryz.prog z.W = .ok (.int .i64 ((freshN nmS L l).length : Int)) z.W := fun z ty => by
            have := (HFI.out.below z.h).len Tryz.underlying115 ty
            rwa [show (ones (freshN nmS L l)).length = (freshN nmS L l).length by simp [ones]] at this
          clear hleft hsm hfl
          generalize (freshN nmS L l).length = nf at *
          generalize L.length = nL at *
          by_cases hgt : 100000 < nL + nf
          · have hgt' : (100000 : Int) < (nL : Int) + (nf : Int) := by omega
            go_wp2_with fail
            refine wp_region_ext (by kernel_rfl) (by kernel_rfl) ?_
            repeat (go_big_quiet_step (fail))
            refine wpQuiet_nil ?_
            intro _ hw'
            obtain ⟨xx, rfl⟩ := hw'
            clear p0 hln hw
            go_wp2_with fail
            go_ret
            exact ⟨by rw [HPU.out, if_pos hgt]; rfl, HW2.out.trans (xx.h.mono HW2.out.size)⟩
          · have hgt' : ¬ (100000 : Int) < (nL : Int) + (nf : Int) := by omega
            go_wp2_with fail
            refine wp_region_ext (by kernel_rfl) (by kernel_rfl) ?_
            repeat (go_big_quiet_step (fail))
            refine wpQuiet_nil ?_
            intro _ hw'
            obtain ⟨xx, rfl⟩ := hw'
            clear p0 hln hw
            go_wp2_with fail
            go_ret
            exact ⟨by rw [HPU.out, if_neg hgt]; rfl, HW2.out.trans (xx.h.mono HW2.out.size)⟩
        · intro s1 t1 xh xl c1 w3 hLf hmem hrg hg3 hs3 hen
          replace hen : (Instr.entry (.pointer (some ⟨wo.heap.size, 0, none⟩))).run Tryz.prog w3 = .ok (.tuple #[.agg #[.int .u64 xh, .int .u64 xl], .int .i64 c1]) w3 := hen
          have HRG3 := Lib.hid hrg
          have HW3 := Lib.hid (HW2.out.grown hg3 HW2.out.size (fun j h => by cases h; have := HZ1.out; omega))
          have HF3 := Lib.hid (HFI.out.kept hg3 (fun e => by have := Option.some.inj e; have := HZ1.out; omega))
          have HLF := Lib.hid hLf
          have HME := Lib.hid hmem
          clear hrg hg3 hs3 hLf hmem
          go_wp2_with fail
          clear hen
          have hb4 := below_alloc (Below.refl w3.heap.size w3) (.cells #[.int .u64 xh, .int .u64 xl] 33)
          have g4 := blk_new w3 (.cells #[.int .u64 xh, .int .u64 xl] 33)
          generalize w3.alloc (.cells #[.int .u64 xh, .int .u64 xl] 33) = w4 at *
          have HW4 := Lib.hid (HW3.out.trans (hb4.mono HW3.out.size))
          have HRG4 := Lib.hid (HRG3.out.below hb4)
          have HF4 := Lib.hid (HF3.out.below hb4)
          have HB4 := Lib.hid (HB.out.below HW4.out)
          obtain ⟨kl, hkl⟩ := HRG4.out.owns.key HME.out
          obtain ⟨vT, hT⟩ := HB4.out.lens (xh, xl) hkl
          have hmo := HMO.out.1 _ HME.out
          simp only at hmo
          have hsm := HB4.out.small
          have hcl := cnt_le (L.map nmS) (xh, xl)
          rw [List.length_map] at hcl
          have hcf := cnt_le (freshN nmS L l) (xh, xl)
          have hfl : (freshN nmS L l).length ≤ l.length := by
            have h1 := len_sub (nodup_fresh (nm := nmS) L l) (fun n hn => (mem_fresh.1 hn).1)
            rwa [List.length_map] at h1
          have H91 := Lib.hid (fun h => room_91 HMO.out HME.out h)
          have HFI9 := Lib.hid (fun (h : fineP L ((xh, xl), c1)) p hp => by
            rcases HFr.out p hp with h1 | h1
            · rw [HLF.out, List.mem_append, List.mem_cons] at h1
              rcases h1 with h1 | rfl | h1
              · exact Or.inl (List.mem_append_left _ h1)
              · exact Or.inr h
              · exact Or.inl (List.mem_append_right _ h1)
            · exact Or.inr h1 : fineP L ((xh, xl), c1) → ∀ p ∈ Mo, p ∈ s1 ++ t1 ∨ fineP L p)
          unfold fineP at HFI9
          simp only at H91 HFI9
          obtain ⟨cl, hcle⟩ : ∃ cl : Nat, cl = cntT (L.map nmS) (xh, xl) := ⟨_, rfl⟩
          rw [← hcle] at hT H91 HFI9 hcl
          have hw : IntKind.i64.wrap ((cl : Int) + c1) = (cl : Int) + c1 := IntWalk.i64_in _ (by omega)
          have p0 := fun z : Wx w4 => z.cell ((cell_of_row _ _ 0 _ _ _ HB4.out.cell).trans rfl)
          have q0 := fun z : Wx w4 => z.cell ((cell_of_row _ _ 0 _ _ _ g4).trans rfl)
          have q1 := fun z : Wx w4 => z.cell ((cell_of_row _ _ 1 _ _ _ g4).trans rfl)
          have e1 := fun z : Wx w4 => (hT z.W z.h).1
          have e2 := fun z : Wx w4 => (hT z.W z.h).2
          clear hb4 g4 hkl hT hmo hsm hcl hcf hfl hcle hleft
          by_cases hgt : 1000 < (cl : Int) + c1
          · refine wp_region_ext (by kernel_rfl) (by kernel_rfl) ?_
            repeat (go_big_quiet_step (fail))
            refine wpQuiet_nil ?_
            intro _ hw'
            obtain ⟨xx, rfl⟩ := hw'
            clear p0 q0 q1 e1 e2 hw
            have H9 := Lib.hid (H91.out hgt)
            clear H91
            go_wp2_with fail
            go_ret
            exact ⟨by rw [H9.out]; rfl, HW4.out.trans (xx.h.mono HW4.out.size)⟩
          · refine wp_region_ext (by kernel_rfl) (by kernel_rfl) ?_
            repeat (go_big_quiet_step (fail))
            refine wpQuiet_nil ?_
            intro _ hw'
            obtain ⟨xx, rfl⟩ := hw'
            clear p0 q0 q1 e1 e2 hw
            have H9 := Lib.hid (HFI9.out hgt)
            clear HFI9
            go_wp2_with fail
            go_roundw
            case rel => exact ⟨s1 ++ t1, Lib.hid (HRG4.out.below xx.h), H9, Lib.hid (HF4.out.below xx.h), Lib.hid (HW4.out.trans (xx.h.mono HW4.out.size))⟩
            case measure =>
              rw [(HRG4.out.below xx.h).left_eq, HG.out.left_eq, HLF.out]
              simp
end Go.Proofs.YthdkgilpnkabmaaGreatDoor.Pr
