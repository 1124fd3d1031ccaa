/- A list with marked places behind it: what spared makes. -/
import Derived.Test.YtafpmcmpkgbgaaaPr0a
import Derived.Laws.CopyOwn
import Derived.Lib.Hide
import Derived.LoopTactic
import Derived.Outline
import Derived.IntWalk
namespace Go.Proofs.Ytafpmcmpkgbgaaa.Pr
open Go.RowKit Go.Proofs.YtafpmcmpkgbgaaaW.PrintWords Go.Proofs.YtafpmcmpkgbgaaaW.PrintLast Go.Proofs.YtafpmcmpkgbgaaaW.PrintMore
open Go.Lib
set_option linter.unusedVariables false
set_option linter.unusedSimpArgs false
theorem infoS23 : (Try.prog.info? 23).map (fun i => (i.zero, i.size, i.bytes)) = some (some (.agg #[(.int .i64 0), (.int .i64 0)]), 2, 16) := by kernel_rfl
/-- What is copied over the first places of a row of one's own. -/
theorem copy23 {W : World} {base g cap c : Nat} {xs ys : List S23} {A : Option Addr} {ok : Nat → Prop} {ty : TypeId} (HO : Kd.R k23 23 W base ok (.slice (some ⟨g, 0, none⟩) xs.length cap) xs) (HR : Kd.C k23 W A ys.length ys) (hle : ys.length ≤ xs.length) :
    ∃ W1, (Builtin.copy_ #[29, 29] ty #[.slice (some ⟨g, 0, none⟩) xs.length cap, .slice A ys.length c]).run Try.prog W = .ok (goInt ys.length) W1 ∧ Kd.R k23 23 W1 base ok (.slice (some ⟨g, 0, none⟩) xs.length cap) (ys ++ xs.drop ys.length) ∧ W.grownBy W1 (some g) := by
  obtain ⟨i0, hi, hzz⟩ := Option.map_eq_some_iff.1 infoS23
  simp only [Prod.mk.injEq] at hzz
  obtain ⟨_, hz1, _⟩ := hzz
  have hmin : Nat.min ys.length xs.length = ys.length := Nat.min_eq_left hle
  by_cases h0 : ys.length = 0
  · obtain rfl : ys = [] := List.eq_nil_of_length_eq_zero h0
    refine ⟨W, ?_, by simpa using HO, World.grownBy.refl W _⟩
    cases A with
    | none => simp [Builtin.copy_, run_underlying Try.underlying29, Builtin.lenOf, Builtin.firstCells, sizeOf, typeInfo, hi, hz1, storeCells]
    | some ad =>
      have hl := run_loadCells_list (P := Try.prog) W ad [] (by simp)
      simp only [List.length_nil] at hl
      simp [Builtin.copy_, run_underlying Try.underlying29, Builtin.lenOf, Builtin.firstCells, sizeOf, typeInfo, hi, hz1, storeCells, hl]
  · obtain ⟨ad, rfl, _⟩ := HR.2.2 (by omega)
    obtain ⟨news, hnr, hnc⟩ := ReadsRow.inner_ HR
    obtain ⟨hok, inner, hown, hr⟩ := HO
    obtain ⟨hinl, hown2⟩ := hown
    rcases hown2 with ⟨hv, _⟩ | ⟨g', cap', cur, hv, hb, hh, hnc', hcm, hcs, htake⟩
    · cases hv
    · cases hv
      have hnl : news.length = ys.length * 2 := hnr.1
      have hone : ∀ u ∈ news, u.oneCell' = true := by
        intro u hu
        obtain ⟨q, hq, rfl⟩ := List.mem_iff_getElem.1 hu
        have h1 := hnr.2 (q / 2) (ys[q / 2]'(by omega)) (List.getElem?_eq_getElem (by omega))
        have h2 := k23_open h1
        have h3 : news[q]? = ((news.drop (q / 2 * 2)).take 2)[q % 2]? := by
          rw [List.getElem?_take_of_lt (by omega), List.getElem?_drop]; congr 1; omega
        have h4 : (k23.sz) = 2 := rfl
        rw [h4] at h2
        rw [h2, List.getElem?_eq_getElem hq] at h3
        rcases Nat.mod_two_eq_zero_or_one q with e | e
        · rw [e] at h3; simp at h3; rw [h3]; rfl
        · rw [e] at h3; simp at h3; rw [h3]; rfl
      have hl := run_loadCells_list (P := Try.prog) W ad news hnc
      rw [hnl] at hl
      have hst := run_storeCells_at Try.prog g 0 23 news 0 cur W hh (by simp; rw [hcs, hnl]; exact Nat.mul_le_mul_right 2 (Nat.le_trans hle hnc')) hone
      refine ⟨W.setRow g (cur.toList.take (0 + 0) ++ news ++ cur.toList.drop (0 + 0 + news.length)).toArray, ?_, ?_, ⟨rfl, rfl, rfl, by simp, fun k _ hk => setRow_other W g k _ (fun e => hk (by simp [e]))⟩⟩
      · simp [Builtin.copy_, run_underlying Try.underlying29, Builtin.lenOf, Builtin.firstCells, sizeOf, typeInfo, hi, hz1, hmin, hl, hst, Nat.min_eq_left hle]
      · have hlen : (ys ++ xs.drop ys.length).length = xs.length := by rw [List.length_append, List.length_drop]; omega
        have hil : inner.length = xs.length * 2 := hinl
        have hcl : cur.toList.length = cap * 2 := by rw [Array.length_toList]; exact hcs
        have htk : cur.toList.take (xs.length * 2) = inner := htake
        refine ⟨hok, news ++ inner.drop (ys.length * 2), ⟨?_, .inr ⟨g, cap, _, by rw [hlen], hb, setRow_heap W g cur _ 23 _ hh, by rw [hlen]; exact hnc', hcm, ?_, ?_⟩⟩, ?_⟩
        · show _ = (ys ++ xs.drop ys.length).length * 2
          rw [hlen, List.length_append, List.length_drop, hnl, hil]; omega
        · show _ = cap * 2
          simp only [List.size_toArray, List.length_append, List.length_take, List.length_drop, hcl, hnl]
          omega
        · show List.take ((ys ++ xs.drop ys.length).length * 2) _ = _
          rw [hlen, ← htk]
          simp only [Nat.zero_add, List.take_zero, List.nil_append]
          rw [List.take_append, List.take_of_length_le (by rw [hnl]; omega), List.drop_take, hnl]
        · exact Kd.reps_append (hnr.imp_ (fun _ _ h => h)) (Kd.reps_drop (size := 2) (m := ys.length) (hr.imp_ (fun _ _ h => h)))
def pad4 : List S23 := [⟨-77, -78⟩, ⟨-77, -78⟩, ⟨-77, -78⟩, ⟨-77, -78⟩]
def SparedPost (l : List S23) (w : World) (e : Ending) (w' : World) : Prop := ∃ v : Value, e = .returned v ∧ Kd.R k23 23 w' w.heap.size (fun _ => True) v (l ++ pad4) ∧ Below w.heap.size w w'
theorem pad_at {l : List S23} {i : Nat} (h : l.length ≤ i) (h' : i < l.length + 4) : (l ++ pad4)[i]? = some ⟨-77, -78⟩ := by
  rw [List.getElem?_append_right h]
  have : i - l.length < 4 := by omega
  generalize i - l.length = j at *
  match j, this with
  | 0, _ => rfl
  | 1, _ => rfl
  | 2, _ => rfl
  | 3, _ => rfl
theorem take_step {ys L : List S23} {i : Nat} {m : S23} (hy : i < ys.length) (hL : L[i]? = some m) (h : ys.take i = L.take i) : (ys.set i m).take (i + 1) = L.take (i + 1) := by
  obtain ⟨hl, hm⟩ := List.getElem?_eq_some_iff.1 hL
  rw [List.take_succ_eq_append_getElem (by simpa using hy), List.take_succ_eq_append_getElem hl, hm, List.getElem_set_self, List.take_set_of_le (Nat.le_refl _), h]
/-- One place of a row of one's own is written. -/
theorem seg23 {base : Nat} {W : World} {g cap n : Nat} {ok : Nat → Prop} {xs : List S23} {i : Nat} {x : S23} (h : Kd.R k23 23 W base ok (.slice (some ⟨g, 0, none⟩) n cap) xs) (hi : i < n) :
    Kd.R k23 23 ((W.setCell ⟨g, i * 2, none⟩ (.int .i64 x.f0)).setCell ⟨g, i * 2 + 1, none⟩ (.int .i64 x.f1)) base ok (.slice (some ⟨g, 0, none⟩) n cap) (xs.set i x) := by
  have hn := (Kd.R_reads' h).1
  obtain ⟨ce, hcl, hM, hcc, hfr⟩ := Kd.R_elem h z23 (i : Int) (by omega) (by omega)
  obtain rfl := k23_openM hM
  have hs := Kd.R_seg h (i : Int) (by omega) (by omega) (seg := [.int .i64 x.f0, .int .i64 x.f1]) (j := 0) hcl hcc (show 2 ≤ 2 from by decide) (x' := x) (okp := fun _ => False) (k23_mkM _ _ _ x) (fun _ hk => hk.elim)
  exact hs.1
set_option maxHeartbeats 2000000 in
theorem spared_run (A : Option Addr) (c : Nat) (l : List S23) (w : World) (hC : Kd.C k23 w A l.length l) (hc : l.length ≤ c) (hl : l.length ≤ 4194304) :
    Calls Try.prog 29 #[.slice A l.length c] w fun e w' => SparedPost l w e w' := by
  have HC := Lib.hid hC
  clear hC
  go_enter Try.func29, Try.ntmps29
  go_wp2_with (refine Kd.R_make k23 (w0 := w) w.heap.size 23 rfl (N := 8) rfl 29 (.tmp 7) (.tmp 7) rfl ((l.length : Int) + 4) rfl rfl Try.underlying29 (.agg #[(.int .i64 0), (.int .i64 0)]) 16 infoS23 rfl (by decide) (by omega) z23 (ok := fun _ => True) (okp := fun _ => False) (k23_mkM _ _ _ z23) (fun _ hk => hk.elim) trivial (by omega) (by omega) (Below.refl _ _) (Nat.le_refl _) ?_; intro v1 w1 hr hb hg hn; obtain ⟨xs, hxs⟩ : ∃ xs, xs = List.replicate ((l.length : Int) + 4).toNat z23 := ⟨_, rfl⟩; rw [← hxs] at hr; have hxl : xs.length = l.length + 4 := (by rw [hxs, List.length_replicate]; omega); clear hxs; obtain ⟨g, cap, eo, hgb, hgl, gcells, HGg⟩ := Kd.R_form hr (by omega); cases eo; obtain ⟨W1, hrun, hR, hgr⟩ := copy23 (ty := 3) (c := c) hr (Kd.C_below HC.out hb) (by omega); have HR1 := Lib.hid hR; have HB1 := Lib.hid (hb.grown hgr hb.size (fun k e => by cases e; exact hgb)); clear hR hgr hr hb hg hn hgl HGg; have hxi : xs.length ≤ l.length + 4 := (by omega); have hxj : l.length + 4 ≤ xs.length := (by omega); clear hxl)
  have HGB := Lib.hid hgb
  clear hgb hrun
  go_loopw [4] (fun v4 wr => ∃ (i : Nat) (ys : List S23), v4 = .int .i64 i ∧ l.length ≤ i ∧ i ≤ xs.length ∧ Hid (ys.length = xs.length ∧ ys.take i = (l ++ pad4).take i) ∧ Hid (Kd.R k23 23 wr w.heap.size (fun _ => True) (.slice (some ⟨g, 0, none⟩) xs.length cap) ys) ∧ Hid (Below w.heap.size w wr)) (fun v4 _ => xs.length - (intOf v4).toNat)
  case atStart => exact ⟨l.length, l ++ xs.drop l.length, rfl, Nat.le_refl _, by omega, Lib.hid ⟨by rw [List.length_append, List.length_drop]; omega, by rw [List.take_left, List.take_left]⟩, HR1, HB1⟩
  case round =>
    obtain ⟨i, ys, rfl, hli, hix, HY, HR, HB⟩ := hrel
    by_cases hlt : i < xs.length
    · have hd : decide ((i : Int) < (xs.length : Int)) = true := decide_eq_true (by omega)
      have hd2 : (i : Int) < (xs.length : Int) := by omega
      go_wp2_with fail
      refine (spoorlaw06_of.calls (-77) (-78) (-77) (-78) _ rfl).mono ?_
      rintro e w5 ⟨rfl, hb5⟩
      have HR5 := Lib.hid (Kd.R_below HR.out hb5)
      have HB5 := Lib.hid (HB.out.trans (hb5.mono HB.out.size))
      clear hb5 HR HB
      obtain ⟨ce, hcl, hM, hcc, hfr⟩ := Kd.R_elem HR5.out z23 (i : Int) (by omega) (by omega)
      obtain rfl := k23_openM hM
      have h0 : w5.cell? ⟨g, i * 2, none⟩ = some (.int .i64 (ys.getD (i : Int).toNat z23).f0) := hcc 0 _ rfl
      have h1 : w5.cell? ⟨g, i * 2 + 1, none⟩ = some (.int .i64 (ys.getD (i : Int).toNat z23).f1) := hcc 1 _ rfl
      have f0 : w5.frozen? ⟨g, i * 2, none⟩ = false := hfr 0
      have f1 : w5.frozen? ⟨g, i * 2 + 1, none⟩ = false := hfr 1
      clear hcl hcc hfr hM
      have HR6 := Lib.hid (seg23 (x := ⟨-77, -78⟩) HR5.out hlt)
      have HB6 := Lib.hid (below_set (j := i * 2 + 1) (v := .int .i64 (-78)) (below_set (j := i * 2) (v := .int .i64 (-77)) HB5.out HGB.out) HGB.out)
      go_wp2_with fail
      go_roundw
      case rel => exact ⟨i + 1, ys.set i ⟨-77, -78⟩, by go_num, by omega, by omega, Lib.hid ⟨by rw [List.length_set]; exact HY.out.1, take_step (by rw [HY.out.1]; exact hlt) (pad_at hli (by omega)) HY.out.2⟩, HR6, HB6⟩
      case measure => simp [intOf]; omega
    · have hd : decide ((i : Int) < (xs.length : Int)) = false := decide_eq_false (by omega)
      have hfin : ys = l ++ pad4 := by
        have h1 := HY.out.1
        have h2 := HY.out.2
        rw [List.take_of_length_le (by omega), List.take_of_length_le (by rw [List.length_append]; simp [pad4]; omega)] at h2
        exact h2
      have HF := Lib.hid hfin
      clear hfin
      go_wp2_with fail
      go_ret
      exact ⟨_, rfl, by rw [← HF.out]; exact HR.out, HB.out⟩
end Go.Proofs.Ytafpmcmpkgbgaaa.Pr
