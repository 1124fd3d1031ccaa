/- (*Store).Put. -/
import Derived.Test.YthdkgilpnkabmaaGreatDoorSh
namespace Go.Proofs.YthdkgilpnkabmaaGreatDoor.Pr
open Go Go.RowKit Go.Proofs.YthdkgilpnkabmaaGreatDoorW.PrintWords Go.Proofs.YthdkgilpnkabmaaGreatDoorW.PrintMore
open Go.Maps (Keyed)
open Rm Ps
set_option linter.unusedVariables false
set_option linter.unusedSimpArgs false
theorem infoCh : (Tryz.prog.info? 50).map (fun i => (i.zero, i.size, i.bytes)) = some (some (.int .i64 0), 1, 8) := by kernel_rfl
/-- What became of spans, told in a row of one's own. -/
def OutIs (w : World) (out : Nat) (n : Nat) (cs : List Int) : Prop := w.heap[out]? = some (.cells ((cs ++ List.replicate (n - cs.length) 0).map (Value.int .i64)).toArray 50 (0, 0))
theorem out_set {w : World} {out n : Nat} {cs : List Int} (h : OutIs w out n cs) (hn : cs.length < n) (v : Int) : OutIs (w.setCell ⟨out, cs.length, none⟩ (.int .i64 v)) out n (cs ++ [v]) := by
  unfold OutIs at h ⊢
  rw [blk_set h]
  congr 2
  simp only [List.setIfInBounds_toArray]
  congr 1
  rw [← List.map_set]
  congr 1
  refine List.ext_getElem? (fun i => ?_)
  rw [List.getElem?_set]
  by_cases hi : cs.length = i
  · subst hi
    rw [if_pos rfl, if_pos (by simp; omega)]
    rw [List.getElem?_append_left (by simp)]
    simp
  · rw [if_neg hi]
    rcases Nat.lt_or_ge i cs.length with h1 | h1
    · rw [List.getElem?_append_left h1, List.getElem?_append_left (by simp; omega), List.getElem?_append_left h1]
    · rw [List.getElem?_append_right h1, List.getElem?_append_right (by simp; omega)]
      simp only [List.length_append, List.length_singleton, List.getElem?_replicate]
      by_cases h2 : i < n
      · rw [if_pos (by omega), if_pos (by omega)]
      · rw [if_neg (by omega), if_neg (by omega)]
theorem out_cell {w : World} {out n : Nat} {cs : List Int} (h : OutIs w out n cs) {i : Nat} (hi : i < n) : ∃ v, w.cell? ⟨out, i, none⟩ = some (.int .i64 v) := by
  unfold OutIs at h
  have := cell_of_row w out i _ _ _ h
  rw [this]
  simp only [List.getElem?_toArray, List.getElem?_map]
  have hlt : i < (cs ++ List.replicate (n - cs.length) 0).length := by simp; omega
  rw [List.getElem?_eq_getElem hlt]
  exact ⟨_, rfl⟩
theorem out_done {w : World} {out n : Nat} {cs : List Int} (h : OutIs w out n cs) (hn : cs.length = n) : w.heap[out]? = some (.cells (cs.map (Value.int .i64)).toArray 50 (0, 0)) := by
  unfold OutIs at h
  rw [h, hn]
  simp
def PutsPost (w : World) (base s : Nat) (F : Nat → Prop) (chk : Sp → Int) (L l : List Sp) (e : Ending) (w' : World) : Prop :=
  (fitsF nmS chk L l ≠ 0 ∧ e = .returned (.tuple #[.slice none 0 0, .int .i64 (fitsF nmS chk L l)]) ∧ Below w.heap.size w w') ∨
  (fitsF nmS chk L l = 0 ∧ ∃ F' out, e = .returned (.tuple #[.slice (some ⟨out, 0, none⟩) l.length l.length, .int .i64 0]) ∧ w.heap.size ≤ out ∧ w'.heap[out]? = some (.cells ((changes nmS ordS L l).map (Value.int .i64)).toArray 50 (0, 0)) ∧
    StoreAt w' base s F' (putAll nmS ordS L l) ∧ Chg F w w' ∧ ∀ k, F' k → F k ∨ w.heap.size ≤ k)
/-- A row of spans that reads so whatever becomes of these blocks. -/
def Steady (F : Nat → Prop) (w : World) (A : Option Addr) (l : List Sp) : Prop :=
  l.length ≤ 140737488351232 ∧ ∀ k, k < l.length → ∃ ab ao cs, A = some ⟨ab, ao, none⟩ ∧ ∀ w', Chg F w w' → kSp.K w' (rdS l k) cs ∧ ∀ i u, cs[i]? = some u → w'.cell? ⟨ab, ao + k * 13 + i, none⟩ = some u
theorem Steady.reads {F : Nat → Prop} {w w' : World} {A : Option Addr} {l : List Sp} (h : Steady F w A l) (hc : Chg F w w') : Kd.C kSp w' A l.length l := by
  refine ⟨rfl, by have := h.1; omega, fun hn => ?_⟩
  obtain ⟨ab, ao, cs, hA, _⟩ := h.2 0 hn
  refine ⟨_, hA, fun j p hj => ?_⟩
  obtain ⟨hjl, hp⟩ := List.getElem?_eq_some_iff.1 hj
  obtain ⟨ab', ao', cs', hA', hcs⟩ := h.2 j hjl
  rw [hA] at hA'
  cases hA'
  obtain ⟨hK, hx⟩ := hcs w' hc
  rw [rdS_at hjl, hp] at hK
  refine ⟨cs', kSp.K_len hK, hK, fun i u hi => ?_⟩
  have := hx i u hi
  rw [Addr.add_lit, ← Nat.add_assoc]
  exact this
theorem Steady.chg {F F' : Nat → Prop} {w w' : World} {A : Option Addr} {l : List Sp} (h : Steady F w A l) (hc : Chg F w w') (hF : ∀ j, j < w.heap.size → F' j → F j) : Steady F' w' A l :=
  ⟨h.1, fun k hk => by
    obtain ⟨ab, ao, cs, hA, hcs⟩ := h.2 k hk
    exact ⟨ab, ao, cs, hA, fun w'' h2 => hcs w'' (hc.trans h2 hF)⟩⟩
/-- A list that lay there ahead of the store. -/
theorem Steady.elder {F : Nat → Prop} {w0 w : World} {A : Option Addr} {l : List Sp} (hr : Kd.C kSp w0 A l.length l) (hb : Below w0.heap.size w0 w) (hF : ∀ j, F j → w0.heap.size ≤ j) (hl : l.length ≤ 140737488351232) : Steady F w A l :=
  ⟨hl, fun k hk => by
    obtain ⟨ab, ao, rfl, hab, A4, c4, A11, c11, A12, c12, hK, hx⟩ := spRow hr k hk
    refine ⟨ab, ao, cSp (rdS l k) (.slice A4 (rdS l k).f3.length c4) (.slice A11 (rdS l k).f10.length c11) (.slice A12 (rdS l k).f11.length c12), rfl, fun w' hc => ?_⟩
    have h2 : Below w0.heap.size w0 w' := hb.trans (hc.below hb.size (fun j _ h => hF j h))
    exact ⟨kSp.K_below h2 hK, fun i u hi => pw_cell_below h2 (hx i u hi)⟩⟩
theorem made_zero (n : Nat) : madeCells #[Value.int .i64 0] n = ((List.replicate n (0 : Int)).map (Value.int .i64)).toArray := by
  apply Array.ext
  · simp [madeCells]
  · intro i h1 h2
    simp [madeCells, Nat.mod_one]
set_option maxHeartbeats 4000000 in
set_option maxRecDepth 100000 in
theorem puts_run (w : World) (base s : Nat) (F : Nat → Prop) (L : List Sp) (B : StoreAt w base s F L) (hbase : base ≤ w.heap.size) (A : Option Addr) (c : Nat) (l : List Sp) (hr : Steady F w A l) (hok : ∀ x ∈ l, okSp x) (hl : l.length ≤ 35184372087808) (chk : Sp → Int) (hC : Checks w chk l) :
    Calls Tryz.prog 9 #[.pointer (some ⟨s, 0, none⟩), .slice A l.length c] w (PutsPost w base s F chk L l) := by
  have HB := Lib.hid B
  have HR := Lib.hid hr
  have HOK := Lib.hid hok
  have HBS := Lib.hid hbase
  have HFI := Lib.hid (fits_run w base s F L B A c l (hr.reads (Chg.refl F w)) hok (by omega) chk hC)
  clear B hr hok hC hbase
  obtain ⟨ff, hff⟩ : ∃ ff, Hid (ff = fitsF nmS chk L l) := ⟨_, rfl⟩
  by_cases h0 : ff = 0
  case neg =>
    have h0' : (ff != 0) = true := by simpa using h0
    have HN := Lib.hid h0
    clear h0
    go_enter Tryz.func9, Tryz.ntmps9
    go_wp2_with fail
    refine HFI.out.mono ?_
    rintro e w1 ⟨rfl, hb1⟩
    rw [← hff.out]
    have HB1 := Lib.hid hb1
    clear hb1
    go_wp2_with fail
    go_ret2
    exact Or.inl ⟨by rw [← hff.out]; exact HN.out, by rw [← hff.out]; rfl, HB1.out⟩
  subst h0
  have hmk := run_make_row' (P := Tryz.prog) 26 50 (.int .i64 0) 8 Tryz.underlying26 infoCh rfl .i64 .i64 l.length (by omega) (by omega)
  go_enter Tryz.func9, Tryz.ntmps9
  go_wp2_with fail
  refine HFI.out.mono ?_
  rintro e w1 ⟨rfl, hb1⟩
  rw [← hff.out]
  have HW1 := Lib.hid hb1
  clear hb1
  go_wp2_with fail
  have hb2 := below_alloc (Below.refl w1.heap.size w1) (.cells (madeCells #[.int .i64 0] l.length) 50)
  have HO2 := Lib.hid (show OutIs (w1.alloc (.cells (madeCells #[.int .i64 0] l.length) 50)) w1.heap.size l.length [] by
    unfold OutIs
    rw [blk_new, made_zero]
    rfl)
  have HW2 := Lib.hid (HW1.out.trans (hb2.mono HW1.out.size))
  clear hb2 hmk
  generalize w1.alloc (.cells (madeCells #[.int .i64 0] l.length) 50) = w2 at *
  obtain ⟨out, hout⟩ : ∃ out, Hid (out = w1.heap.size) := ⟨_, rfl⟩
  rw [← hout.out] at HO2 ⊢
  have HOW := Lib.hid (show w.heap.size ≤ out by rw [hout.out]; exact HW1.out.size)
  go_loopw [21] (fun v21 wr => ∃ (k : Nat) (F' : Nat → Prop), v21 = .int .i64 k ∧ k ≤ l.length ∧ Hid (StoreAt wr base s F' (putAll nmS ordS L (l.take k))) ∧ Hid (OutIs wr out l.length (changes nmS ordS L (l.take k))) ∧ Hid (Chg F w wr) ∧ Hid (∀ j, F' j → F j ∨ w.heap.size ≤ j) ∧ Hid (¬ F' out) ∧ Hid (out < wr.heap.size)) (fun v21 _ => l.length - (intOf v21).toNat)
  case atStart => exact ⟨0, F, rfl, Nat.zero_le _, Lib.hid (HB.out.below HW2.out), HO2, Lib.hid (Chg.of_below HW2.out), Lib.hid (fun j h => Or.inl h), Lib.hid (fun h => by have := (HB.out.ours _ h).2.1; have := HOW.out; omega), Lib.hid (blk_lt HO2.out)⟩
  case round =>
    obtain ⟨k, F', rfl, hk, HS, HO, HCH, HFF, HNO, HOL⟩ := hrel
    by_cases hlt : k < l.length
    · have hlk : (k : Int) < (l.length : Int) := by omega
      obtain ⟨ab, ao, cs, rfl, hst⟩ := HR.out.2 k hlt
      have HX := Lib.hid (HOK.out _ (rdS_mem hlt))
      have HTK := Lib.hid (take_rd hlt)
      have HST := Lib.hid hst
      obtain ⟨hK, hx⟩ := hst wr HCH.out
      have hroom := fun h => room_each (cmp := ordS) HB.out.nodup (fits_zero hff.out.symm).2 k hlt h
      rw [← rdS_at hlt] at hroom
      have HRM := Lib.hid hroom
      clear hst hroom
      generalize rdS l k = x at *
      obtain ⟨A4, c4, A11, c11, A12, c12, rfl, _⟩ := kSp_open' hK
      have HP := Lib.hid (fun w3 (h3 : Below wr.heap.size wr w3) => put_run w3 base s F' (putAll nmS ordS L (l.take k)) (HS.out.below h3) (Nat.le_trans HBS.out (Nat.le_trans HCH.out.size h3.size)) x HX.out _ (fun w' hc => (HST.out w' ((HCH.out.trans (Chg.of_below (G := F') h3) (fun j hj h => (HFF.out j h).elim (fun h => h) (fun h => by omega))).trans hc (fun j hj h => (HFF.out j h).elim (fun h => h) (fun h => by omega)))).1) HRM.out)
      have hbk : ab < wr.heap.size := World.block_lt_of_cell? wr _ (hx 0 _ rfl)
      obtain ⟨⟨hi, lo⟩, id, par, lk, sv, op, kd, st, s0, s1, la, le⟩ := x
      dsimp only [cSp] at hx HP
      have x0 := hx 0 _ rfl
      have x1 := hx 1 _ rfl
      have x2 := hx 2 _ rfl
      have x3 := hx 3 _ rfl
      have x4 := hx 4 _ rfl
      have x5 := hx 5 _ rfl
      have x6 := hx 6 _ rfl
      have x7 := hx 7 _ rfl
      have x8 := hx 8 _ rfl
      have x9 := hx 9 _ rfl
      have x10 := hx 10 _ rfl
      have x11 := hx 11 _ rfl
      have x12 := hx 12 _ rfl
      simp only [Nat.add_zero] at x0
      clear hx hK
      go_wp2_with fail
      refine (HP.out _ (below_alloc (Below.refl wr.heap.size wr) _)).mono ?_
      rintro e w3 ⟨F'', rfl, hS3, hC3, hF3⟩
      have hal := below_alloc (Below.refl wr.heap.size wr) (.cells #[.int .u64 hi, .int .u64 lo, .int .u64 id, .int .u64 par, .slice A4 lk.length c4, .string sv, .string op, .int .i64 kd, .int .i64 st, .int .i64 s0, .int .i64 s1, .slice A11 la.length c11, .slice A12 le.length c12] 41)
      have hc03 : Chg F' wr w3 := (Chg.of_below (G := F') hal).trans hC3 (fun _ _ h => h)
      have hO3 : OutIs w3 out l.length (changes nmS ordS L (l.take k)) := hc03.blk HO.out HNO.out
      have hlen : (changes nmS ordS L (l.take k)).length = k := by rw [changes_len, List.length_take]; omega
      have HCS := Lib.hid (changes_snoc (nm := nmS) (cmp := ordS) (l.take k) L ⟨⟨hi, lo⟩, id, par, lk, sv, op, kd, st, s0, s1, la, le⟩)
      have HPS := Lib.hid (putAll_snoc (nm := nmS) (cmp := ordS) L (l.take k) ⟨⟨hi, lo⟩, id, par, lk, sv, op, kd, st, s0, s1, la, le⟩)
      have HO4 := Lib.hid (out_set hO3 (by rw [hlen]; exact hlt) (became nmS ordS (putAll nmS ordS L (l.take k)) ⟨⟨hi, lo⟩, id, par, lk, sv, op, kd, st, s0, s1, la, le⟩))
      have hz3 : wr.heap.size ≤ w3.heap.size := Nat.le_trans hal.size hC3.size
      have hno3 : ¬ F'' out := fun h => by
        rcases hF3 _ h with h | h
        · exact HNO.out h
        · have := HOL.out; have := hal.size; omega
      have hcw : Chg F w w3 := HCH.out.trans hc03 (fun j hj h => (HFF.out j h).elim (fun h => h) (fun h => by omega))
      obtain ⟨y, hcell⟩ := out_cell hO3 hlt
      have hfr := blk_frozen hO3 k
      have HL := Lib.hid (show (∃ F3, StoreAt (w3.setCell ⟨out, k, none⟩ (.int .i64 (became nmS ordS (putAll nmS ordS L (l.take k)) ⟨⟨hi, lo⟩, id, par, lk, sv, op, kd, st, s0, s1, la, le⟩))) base s F3 (putAll nmS ordS L (l.take (k + 1))) ∧ OutIs (w3.setCell ⟨out, k, none⟩ (.int .i64 (became nmS ordS (putAll nmS ordS L (l.take k)) ⟨⟨hi, lo⟩, id, par, lk, sv, op, kd, st, s0, s1, la, le⟩))) out l.length (changes nmS ordS L (l.take (k + 1))) ∧
          Chg F w (w3.setCell ⟨out, k, none⟩ (.int .i64 (became nmS ordS (putAll nmS ordS L (l.take k)) ⟨⟨hi, lo⟩, id, par, lk, sv, op, kd, st, s0, s1, la, le⟩))) ∧ (∀ j, F3 j → F j ∨ w.heap.size ≤ j) ∧ ¬ F3 out ∧ out < (w3.setCell ⟨out, k, none⟩ (.int .i64 (became nmS ordS (putAll nmS ordS L (l.take k)) ⟨⟨hi, lo⟩, id, par, lk, sv, op, kd, st, s0, s1, la, le⟩))).heap.size) from by
        rw [HTK.out, HCS.out, HPS.out]
        have h4 := HO4.out
        rw [hlen] at h4
        refine ⟨F'', hS3.chg (G := fun j => j = out) (Chg.set rfl) (fun j hj e => hno3 (e ▸ hj)) ?_, h4, hcw.trans (Chg.set (G := fun j => j = out) rfl) (fun j hj h => by have := HOW.out; omega), fun j hj => ?_, hno3, by simp; have := HOL.out; omega⟩
        · intro j hj q hq cells hc
          subst hj
          have := hO3
          unfold OutIs at this
          rw [this] at hc
          cases hc
          simp [kSq_E] at hq
        · rcases hF3 j hj with h | h
          · exact HFF.out j h
          · exact Or.inr (Nat.le_trans HCH.out.size (Nat.le_trans hal.size h)))
      clear hS3 hC3 hF3 hal hc03 hO3 hlen hz3 hno3 hcw HO4 HCS HPS HP HRM
      generalize became nmS ordS (putAll nmS ordS L (l.take k)) ⟨⟨hi, lo⟩, id, par, lk, sv, op, kd, st, s0, s1, la, le⟩ = v at *
      go_wp2_with fail
      go_roundw
      case rel =>
        obtain ⟨F3, h1, h2, h3, h4, h5, h6⟩ := HL.out
        exact ⟨k + 1, F3, by go_num, by omega, Lib.hid h1, Lib.hid h2, Lib.hid h3, Lib.hid h4, Lib.hid h5, Lib.hid h6⟩
      case measure => simp [intOf]; omega
    · obtain rfl : k = l.length := by omega
      rw [List.take_length] at HS HO
      have HD := Lib.hid (out_done HO.out (changes_len _ _))
      go_wp2_with fail
      go_ret2
      exact Or.inr ⟨hff.out.symm, F', out, rfl, HOW.out, HD.out, HS.out, HCH.out, HFF.out⟩
end Go.Proofs.YthdkgilpnkabmaaGreatDoor.Pr
