/- The contract of spoorlaw13.sorted, in the print's form. -/
import Derived.Test.YtlnhpccapadpmaaPr0
import Derived.Lib.Hide
import Derived.Outline
import Derived.LoopTactic
import Derived.IntWalk
namespace Go.Proofs.Ytlnhpccapadpmaa.Pr
open Go.RowKit Go.Proofs.YtlnhpccapadpmaaW.PrintWords Go.Proofs.YtlnhpccapadpmaaW.PrintLast Go.Proofs.YtlnhpccapadpmaaW.PrintMore
set_option linter.unusedVariables false
set_option linter.unusedSimpArgs false

def posOf (o : List Int) (x : Int) : Nat → Nat
  | 0 => 0
  | k + 1 => if o.getD k 0 > x then posOf o x k else k + 1
def ins (o : List Int) (x : Int) : List Int := o.take (posOf o x o.length) ++ x :: o.drop (posOf o x o.length)
def sortedL (l : List Int) : List Int := l.foldl ins []
def spoorlaw13_sorted.f (l : List Int) : Option (List Int) := if l.length < 17592186044416 then some (sortedL l) else none
theorem posOf_le (o : List Int) (x : Int) : ∀ k, posOf o x k ≤ k
  | 0 => Nat.le_refl _
  | k + 1 => by
    unfold posOf; split
    · exact Nat.le_succ_of_le (posOf_le o x k)
    · exact Nat.le_refl _
theorem ins_len (o : List Int) (x : Int) : (ins o x).length = o.length + 1 := by
  have := posOf_le o x o.length
  simp [ins]; omega
def gap (o : List Int) (k : Nat) (g : Int) : List Int := o.take k ++ g :: o.drop k
theorem gap_len (o : List Int) (k : Nat) (g : Int) (h : k ≤ o.length) : (gap o k g).length = o.length + 1 := by simp [gap]; omega
theorem gap_get (o : List Int) (k : Nat) (g : Int) (h : k + 1 ≤ o.length) : (gap o (k + 1) g).getD k 0 = o.getD k 0 := by
  have : k < (o.take (k + 1)).length := by rw [List.length_take]; omega
  simp [gap, List.getD, List.getElem?_append_left this]
theorem gap_set (o : List Int) (k : Nat) (g x : Int) (h : k ≤ o.length) : (gap o k g).set k x = gap o k x := by
  have : (o.take k).length = k := by rw [List.length_take]; omega
  unfold gap
  rw [List.set_append_right _ _ (by omega), this]; simp
theorem gap_shift (o : List Int) (k : Nat) (h : k + 1 ≤ o.length) : gap o (k + 1) (o.getD k 0) = gap o k (o.getD k 0) := by
  have e : o.getD k 0 = o[k] := by simp [List.getD, (by omega : k < o.length)]
  unfold gap
  rw [e, List.take_succ_eq_append_getElem (by omega : k < o.length), List.drop_eq_getElem_cons (by omega : k < o.length)]
  simp only [List.append_assoc, List.cons_append, List.nil_append]
theorem drop_consU (l : List Int) (k : Nat) (h : k < l.length) : l.drop k = rd l k :: l.drop (k + 1) := by
  rw [List.drop_eq_getElem_cons h]; simp [rd, List.getD, h]
theorem info23' : (Try.prog.info? 23).map (fun i => (i.zero, i.size, i.bytes)) = some (some (.int .u64 0), 1, 8) := by kernel_rfl
def SortedPost (w : World) (r : List Int) (e : Ending) (w' : World) : Prop := ∃ v0_ : Value, e = .returned (v0_) ∧ Kd.R (Kd.int .u64) 23 w' w.heap.size (fun _ => True) v0_ r ∧ Below w.heap.size w w'

theorem sorted_next {w wq : World} {l0 o : List Int} {i k : Nat} {x gv : Int} {g cap : Nat} (HS : Hid (sortedL l0 = (l0.drop i).foldl ins o)) (HD : Hid (l0.drop i = x :: l0.drop (i + 1))) (HP : Hid (posOf o x o.length = k))
    (HR : Hid (Kd.R (Kd.int .u64) 23 wq w.heap.size (fun _ => True) (.slice (some ⟨g, 0, none⟩) (i + 1) cap) (gap o k gv))) (HB : Hid (Below w.heap.size w wq)) (ho : o.length = i) (hi : i ≤ l0.length) (hlt : i < l0.length) (hk : k ≤ i) (HGB : Hid (w.heap.size ≤ g)) (n : Nat) :
    ∃ (i' : Nat) (o' : List Int), Value.int .i64 ((i : Int) + 1) = .int .i64 i' ∧ i' ≤ l0.length ∧ o'.length = i' ∧ Hid (Kd.R (Kd.int .u64) 23 ((wq.drewN n).setCell ⟨g, k, none⟩ (.int .u64 x)) w.heap.size (fun _ => True) (.slice (some ⟨g, 0, none⟩) (i + 1) cap) o') ∧
      Hid (sortedL l0 = (l0.drop i').foldl ins o') ∧ Hid (Below w.heap.size w ((wq.drewN n).setCell ⟨g, k, none⟩ (.int .u64 x))) := by
  refine ⟨i + 1, ins o x, by go_num, by omega, by rw [ins_len, ho], Lib.hid ?_, Lib.hid ?_, Lib.hid ?_⟩
  · have := Kd.R_putn (Kd.R_drewN HR.out n) (k : Int) x
    rw [Int.toNat_natCast, gap_set o k gv x (by omega)] at this
    unfold ins
    rw [HP.out]
    exact this
  · rw [HS.out, HD.out]; rfl
  · exact (pw_below_drewN HB.out n).setCell HGB.out _
set_option maxHeartbeats 4000000 in
set_option maxRecDepth 100000 in
theorem spoorlaw13_sorted.calls (A0 : Option Addr) (c0 : Nat) (l0 : List Int) (r : List Int) (w : World) (hr0 : Kd.C (Kd.int .u64) w A0 l0.length l0) (hc0 : l0.length ≤ c0) (h : spoorlaw13_sorted.f l0 = some r) :
    Calls Try.prog 16 #[.slice A0 l0.length c0] w fun e w' => ∃ v0_ : Value, e = .returned (v0_) ∧ Kd.R (Kd.int .u64) 23 w' w.heap.size (fun _ => True) v0_ r ∧ Below w.heap.size w w' := by
  show Calls Try.prog 16 _ w fun e w' => SortedPost w r e w'
  unfold spoorlaw13_sorted.f at h
  by_cases hs : l0.length < 17592186044416
  · rw [if_pos hs] at h
    obtain rfl := Option.some.inj h
    have HC := Lib.hid hr0
    clear h hr0
    go_enter Try.func16, Try.ntmps16
    go_wp2_with fail
    go_loopw [3, 4] (fun v3 v4 wr => ∃ (i : Nat) (o : List Int), v4 = .int .i64 i ∧ i ≤ l0.length ∧ o.length = i ∧ Hid (Kd.R (Kd.int .u64) 23 wr w.heap.size (fun _ => True) v3 o) ∧ Hid (sortedL l0 = (l0.drop i).foldl ins o) ∧ Hid (Below w.heap.size w wr)) (fun _ v4 _ => l0.length - (intOf v4).toNat)
    case atStart => exact ⟨0, [], rfl, Nat.zero_le _, rfl, Lib.hid (Kd.R_nil _ _ _ _ _), Lib.hid (by simp [sortedL]), Lib.hid (Below.refl _ _)⟩
    case round =>
      obtain ⟨i, o, rfl, hi, ho, HR, HS, HB⟩ := hrel
      by_cases hlt : i < l0.length
      · obtain ⟨ad, rfl, hx⟩ := Kd.at_int (Kd.C_below HC.out HB.out) (i : Int) (by omega) (by omega)
        simp only [Int.toNat_natCast] at hx
        have HD := Lib.hid (drop_consU l0 i hlt)
        generalize hxx : rd l0 i = x at *
        have HXX := Lib.hid hxx
        clear hxx
        obtain ⟨A3, c3, hv3, hl3, _⟩ := Kd.R_reads HR.out
        rw [hv3] at HR
        subst hv3
        go_wp2_with (at_builtin; refine Kd.R_append (Kd.int .u64) (w0 := w) w.heap.size rfl (.tmp 14) (.tmp 15) 30 23 (.int .u64 0) 8 rfl Try.underlying30 info23' rfl (by decide) (by omega) (.slice A3 o.length c3) o 0 [.int .u64 0] (fun _ => True) (fun _ => False) rfl rfl ?aP (fun _ hk => hk.elim) ?aF ?aO ?aB ?aS ?aL ?_; (case aP => exact rfl); (case aF => exact fun _ _ => trivial); (case aO => exact HR.out); (case aB => exact HB.out); (case aS => exact HB.out.size); (case aL => omega); intro v1 w1 hro hb hg hat; have HR1 := Lib.hid hro; have HB1 := Lib.hid hb; clear hro hb hg hat HR HB hl3)
        have hlen1 : (o ++ [(0 : Int)]).length = i + 1 := by simp [ho]
        obtain ⟨g, cap, hv, hgB, hgl, cells, hcells⟩ := Kd.R_form HR1.out (by omega)
        rw [hlen1] at hv
        rw [hv] at HR1
        subst hv
        have HGB := Lib.hid hgB
        have hg0 : o ++ [0] = gap o i 0 := by subst ho; simp [gap]
        rw [hg0] at HR1
        clear hcells hgB hg0 hlen1 hgl
        go_loopw [5] (fun v5 wq => ∃ (k : Nat) (gv : Int), v5 = .int .i64 k ∧ k ≤ i ∧ Hid (Kd.R (Kd.int .u64) 23 wq w.heap.size (fun _ => True) (.slice (some ⟨g, 0, none⟩) (i + 1) cap) (gap o k gv)) ∧ Hid (posOf o x o.length = posOf o x k) ∧ Hid (Below w.heap.size w wq)) (fun v5 _ => (intOf v5).toNat)
        case atStart => exact ⟨i, 0, rfl, Nat.le_refl _, HR1, Lib.hid (by rw [ho]), HB1⟩
        clear HR1 HB1
        case round =>
          obtain ⟨k, gv, rfl, hk, HR, HP, HB⟩ := hrel
          obtain ⟨ad', had, hxq⟩ := Kd.at_int (Kd.C_below HC.out HB.out) (i : Int) (by omega) (by omega)
          cases had
          rw [HXX.out, Int.toNat_natCast] at hxq
          by_cases hk0 : k = 0
          · subst hk0
            have hd0 : decide (((0 : Nat) : Int) > 0) = false := by decide
            obtain ⟨hc1, hc2⟩ := Kd.R_celln 0 HR.out ((0 : Nat) : Int) (by omega) (by omega)
            simp only [Int.toNat_natCast] at hc1 hc2
            go_wp2_with fail
            go_quiet (fail)
            go_wp2
            go_roundw
            case rel => exact sorted_next HS HD HP HR HB ho hi hlt (Nat.zero_le _) HGB _
            case measure => simp [intOf]; omega
          · obtain ⟨m, rfl⟩ : ∃ m, k = m + 1 := ⟨k - 1, by omega⟩
            clear hk0
            have hm1 : m + 1 ≤ i := hk
            obtain ⟨hc1, hc2⟩ := Kd.R_celln 0 HR.out ((m + 1 : Nat) : Int) (by omega) (by omega)
            obtain ⟨hb1, hb2⟩ := Kd.R_celln 0 HR.out ((m : Nat) : Int) (by omega) (by omega)
            simp only [Int.toNat_natCast, rdOf] at hc1 hc2 hb1 hb2
            rw [gap_get o m gv (by omega)] at hb1
            have hd0 : decide (((m + 1 : Nat) : Int) > 0) = true := decide_eq_true (by omega)
            generalize hy : o.getD m 0 = y at *
            have HY := Lib.hid hy
            clear hy
            by_cases hyx : y > x
            · have hyx' : decide (x < y) = true := decide_eq_true hyx
              go_wp2_with fail
              go_quiet (fail)
              go_wp2
              go_roundw
              case rel =>
                refine ⟨m, y, by go_num, by omega, Lib.hid ?_, Lib.hid ?_, Lib.hid ?_⟩
                · have := Kd.R_putn (Kd.R_drewN HR.out nq) ((m + 1 : Nat) : Int) y
                  rw [Int.toNat_natCast, gap_set o (m + 1) gv y (by omega), ← HY.out, gap_shift o m (by omega), HY.out] at this
                  exact this
                · rw [HP.out]
                  show (if o.getD m 0 > x then posOf o x m else m + 1) = _
                  rw [HY.out, if_pos hyx]
                · exact (pw_below_drewN HB.out _).setCell HGB.out _
              case measure => simp [intOf]
            · have hyx' : decide (x < y) = false := decide_eq_false hyx
              have HPm : Hid (posOf o x o.length = m + 1) := Lib.hid (by
                rw [HP.out]
                show (if o.getD m 0 > x then posOf o x m else m + 1) = _
                rw [HY.out, if_neg hyx])
              go_wp2_with fail
              go_quiet (fail)
              go_wp2
              go_roundw
              case rel => exact sorted_next HS HD HPm HR HB ho hi hlt hm1 HGB _
              case measure => simp [intOf]; omega
      · go_wp2
        go_ret
        have hil : i = l0.length := by omega
        subst hil
        refine ⟨_, rfl, ?_, HB.out⟩
        rw [HS.out, List.drop_eq_nil_of_le (Nat.le_refl _)]
        exact HR.out
  · rw [if_neg hs] at h; exact absurd h (by simp)
end Go.Proofs.Ytlnhpccapadpmaa.Pr
