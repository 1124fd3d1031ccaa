/- Contracts of package sketch: a row's put and bars. -/
import Derived.Test.YtlnhpccapadpmaaXSk
import Derived.Test.YtlnhpccapadpmaaXAd
namespace Go.Proofs.Ytlnhpccapadpmaa.Pr
open Go.RowKit Go.Proofs.YtlnhpccapadpmaaW.PrintWords Go.Proofs.YtlnhpccapadpmaaW.PrintLast Go.Proofs.YtlnhpccapadpmaaW.PrintMore
set_option linter.unusedVariables false
set_option linter.unusedSimpArgs false

def addLo (x y : Int) : Int := if x + y ≤ M64 then x + y else x + y - (M64 + 1)
def addHi (x y : Int) : Int := if x + y ≤ M64 then 0 else 1
theorem add64_run (x y : Int) (hx : 0 ≤ x ∧ x ≤ M64) (hy : 0 ≤ y ∧ y ≤ M64) (w : World) :
    (callFunc 34 #[.int .u64 x, .int .u64 y, .int .u64 0]).run Try.prog w = .ok (.value (.tuple #[.int .u64 (addLo x y), .int .u64 (addHi x y)])) w := by
  refine bits_Add64.run x y 0 _ _ w ?_
  unfold bits_Add64.f
  rw [if_pos (by simp only [inW, Bool.and_eq_true, decide_eq_true_eq, Bool.or_eq_true]; exact ⟨⟨hx, hy⟩, .inl trivial⟩)]
  simp [addLo, addHi]

def satAdd (x y : Int) : Int := if x + y ≤ M64 then x + y else M64
theorem sat1 (x n : Int) (h : x + n ≤ M64) : addLo x n = satAdd x n ∧ addHi x n = 0 := by
  unfold addLo satAdd addHi; rw [if_pos h, if_pos h, if_pos h]; exact ⟨rfl, rfl⟩
theorem sat2 (x n : Int) (h : ¬ x + n ≤ M64) : 18446744073709551615 = satAdd x n ∧ addHi x n = 1 := by
  unfold satAdd addHi; rw [if_neg h, if_neg h]; exact ⟨rfl, rfl⟩
set_option maxHeartbeats 1000000 in
theorem rowput_any (g : Nat) (r : List Int) (i n : Int) (w : World) (hr : r.length = 1920) (hi : 0 ≤ i ∧ i < 1920) (hx : 0 ≤ r.getD i.toNat 0 ∧ r.getD i.toNat 0 ≤ M64) (hn : 0 ≤ n ∧ n ≤ M64)
    (hG : w.heap[g]? = some (.cells (rowCells r) 76 (0, 0))) :
    Calls Try.prog 30 #[.pointer (some ⟨g, 0, none⟩), .int .i64 i, .int .u64 n] w fun e w' => e = .returned (.tuple #[]) ∧ Hid (w' = w.setCell ⟨g, i.toNat, none⟩ (.int .u64 (satAdd (r.getD i.toNat 0) n))) := by
  have hc := (cell_of_row w g i.toNat _ _ _ hG).trans (rowCells_get r i.toNat (by omega))
  have hf := blk_frozen hG i.toNat
  have ha := add64_run _ _ hx hn
  have hs1 := sat1 (r.getD i.toNat 0) n
  have hs2 := sat2 (r.getD i.toNat 0) n
  have h0 := hi.1
  have h1 := hi.2
  have HS1 := Lib.hid hs1
  have HS2 := Lib.hid hs2
  have HX := Lib.hid hx
  clear hs1 hs2 hG hx hn hi
  generalize r.getD i.toNat 0 = x at *
  generalize satAdd x n = s at *
  generalize addLo x n = lo at *
  by_cases hle : x + n ≤ M64
  · obtain ⟨e1, e2⟩ := HS1.out hle
    rw [e2] at ha
    subst e1
    clear HS1 HS2 hle e2
    go_enter Try.func30, Try.ntmps30
    go_wp2
    go_end0
    exact ⟨rfl, Lib.hid rfl⟩
  · obtain ⟨e1, e2⟩ := HS2.out hle
    rw [e2] at ha
    have HE := Lib.hid e1
    clear HS1 HS2 hle e2 e1
    go_enter Try.func30, Try.ntmps30
    go_wp2
    go_end0
    exact ⟨rfl, Lib.hid (by rw [HE.out])⟩

def barsFrom : Int → List Int → List S61
  | _, [] => []
  | i, x :: t => if x > 0 then ⟨i, x⟩ :: barsFrom (i + 1) t else barsFrom (i + 1) t
theorem barsFrom_drop (r : List Int) (k : Nat) (h : k < r.length) : barsFrom (k : Int) (r.drop k) = if r.getD k 0 > 0 then ⟨k, r.getD k 0⟩ :: barsFrom ((k + 1 : Nat) : Int) (r.drop (k + 1)) else barsFrom ((k + 1 : Nat) : Int) (r.drop (k + 1)) := by
  rw [List.drop_eq_getElem_cons h]
  simp [barsFrom, List.getD, h]
theorem info61' : (Try.prog.info? 61).map (fun i => (i.zero, i.size, i.bytes)) = some (some (.agg #[(.int .i64 0), (.int .u64 0)]), 2, 16) := by kernel_rfl
def BarsPost (w : World) (xs : List S61) (e : Ending) (w' : World) : Prop := ∃ v : Value, e = .returned v ∧ Kd.R k61 61 w' w.heap.size (fun _ => True) v xs ∧ Below w.heap.size w w'

set_option maxHeartbeats 1000000 in
set_option maxRecDepth 100000 in
theorem bars_any (g : Nat) (r : List Int) (w : World) (hr : r.length = 1920) (hG : w.heap[g]? = some (.cells (rowCells r) 76 (0, 0))) :
    Calls Try.prog 31 #[.pointer (some ⟨g, 0, none⟩)] w fun e w' => BarsPost w (barsFrom 0 r) e w' := by
  have HG := Lib.hid hG
  clear hG
  go_enter Try.func31, Try.ntmps31
  go_wp2_with fail
  go_loopw [3, 7] (fun v3 v7 wr => ∃ (k : Nat) (xs : List S61), v7 = .int .i64 k ∧ k ≤ 1920 ∧ xs.length ≤ k ∧ Hid (Kd.R k61 61 wr w.heap.size (fun _ => True) v3 xs) ∧ Hid (xs ++ barsFrom k (r.drop k) = barsFrom 0 r) ∧ Hid (Below w.heap.size w wr)) (fun _ v7 _ => 1920 - (intOf v7).toNat)
  case atStart => exact ⟨0, [], rfl, by omega, by simp, Lib.hid (Kd.R_nil _ _ _ _ _), Lib.hid (by simp), Lib.hid (Below.refl _ _)⟩
  case round =>
    obtain ⟨k, xs, rfl, hk, hxs, HR, HE, HB⟩ := hrel
    by_cases hlt : k < 1920
    · have hG' := blk_below HG.out HB.out
      have hc := (cell_of_row _ g k _ _ _ hG').trans (rowCells_get r k (by omega))
      clear hG'
      have HD := Lib.hid (barsFrom_drop r k (by omega))
      generalize r.getD k 0 = x at *
      by_cases hx : x > 0
      · have hx' : 0 < x := hx
        go_wp2_with fail
        go_quiet (fail)
        generalize hwq : wr.drewN _ = wq
        have HR' := Lib.hid (show Kd.R k61 61 wq w.heap.size (fun _ => True) u3 xs from hwq ▸ (Kd.R_drewN HR.out _))
        have HB' := Lib.hid (show Below w.heap.size w wq from hwq ▸ (pw_below_drewN HB.out _))
        clear HR HB hwq hc
        go_wp2_with (at_builtin; refine Kd.R_append k61 (w0 := w) w.heap.size rfl (.tmp 15) (.tmp 19) 31 61 (.agg #[(.int .i64 0), (.int .u64 0)]) 16 rfl Try.underlying31 info61' rfl (by decide) (by omega) u3 xs (⟨k, x⟩ : S61) [.int .i64 k, .int .u64 x] (fun _ => True) (fun _ => False) rfl rfl ?aP (fun _ hk => hk.elim) ?aF ?aO ?aB ?aS ?aL ?_; (case aP => exact k61_mkM _ _ _ (⟨k, x⟩ : S61)); (case aF => exact fun _ _ => trivial); (case aO => exact HR'.out); (case aB => exact HB'.out); (case aS => exact HB'.out.size); (case aL => omega); intro v1 w1 ho hb hg hat; have HO1 := Lib.hid ho; have HB1 := Lib.hid hb; clear ho hb hg hat)
        go_roundw
        case rel => exact ⟨k + 1, xs ++ [⟨k, x⟩], by go_num, by omega, by simp; omega, HO1, Lib.hid (by rw [← HE.out, HD.out, if_pos hx]; simp), HB1⟩
        case measure => simp [intOf]; omega
      · have hx' : ¬ 0 < x := hx
        go_wp2_with fail
        go_quiet (fail)
        generalize hwq : wr.drewN _ = wq
        have HR' := Lib.hid (show Kd.R k61 61 wq w.heap.size (fun _ => True) u3 xs from hwq ▸ (Kd.R_drewN HR.out _))
        have HB' := Lib.hid (show Below w.heap.size w wq from hwq ▸ (pw_below_drewN HB.out _))
        clear HR HB hwq hc
        go_wp2
        go_roundw
        case rel => exact ⟨k + 1, xs, by go_num, by omega, by omega, HR', Lib.hid (by rw [← HE.out, HD.out, if_neg (by omega)]), HB'⟩
        case measure => simp [intOf]; omega
    · go_wp2
      go_ret
      have hk' : k = 1920 := by omega
      subst hk'
      have e1 : r.drop 1920 = [] := List.drop_eq_nil_of_le (by omega)
      have e2 := HE.out
      rw [e1] at e2
      exact ⟨_, rfl, by rw [← e2]; simpa [barsFrom] using HR.out, HB.out⟩
end Go.Proofs.Ytlnhpccapadpmaa.Pr
