/- The keys of the store's maps. -/
import Derived.Test.YthdkgilpnkabmaaDoorCh
import Derived.Test.YthdkgilpnkabmaaDoorSg
import Derived.DeepKeys4
namespace Go.Proofs.YthdkgilpnkabmaaDoor.Pr
open Go Go.RowKit Go.Proofs.YthdkgilpnkabmaaDoorW.PrintWords Go.Proofs.YthdkgilpnkabmaaDoorW.PrintMore
open Go.Maps (Keyed)
set_option linter.unusedVariables false
set_option linter.unusedSimpArgs false
theorem laid : laidOutB Tryd.prog = true := by kernel_rfl
theorem keyTr : Keyed Tryd.prog 28 := Keyed.of_law (deep_law_laid laid (m := 20) (by omega) (by decide +kernel) (by kernel_rfl) (by kernel_rfl))
theorem keyNm : Keyed Tryd.prog 65 := Keyed.of_law (deep_law_laid laid (m := 20) (by omega) (by decide +kernel) (by kernel_rfl) (by kernel_rfl))
theorem keyId : Keyed Tryd.prog 29 := Maps.int_keyed Tryd.underlying29
def mkTr (t : Int × Int) : Value := .agg #[.int .u64 t.1, .int .u64 t.2]
def mkNm (n : (Int × Int) × Int) : Value := .agg #[.int .u64 n.1.1, .int .u64 n.1.2, .int .u64 n.2]
def mkId (i : Int) : Value := .int .u64 i
theorem mkTr_inj {x y : Int × Int} (h : mkTr x = mkTr y) : x = y := by
  obtain ⟨a, b⟩ := x
  obtain ⟨c, d⟩ := y
  simpa [mkTr] using h
theorem mkNm_inj {x y : (Int × Int) × Int} (h : mkNm x = mkNm y) : x = y := by
  obtain ⟨⟨a, b⟩, e⟩ := x
  obtain ⟨⟨c, d⟩, f⟩ := y
  simp [mkNm] at h
  simp [h]
theorem mkId_inj {x y : Int} (h : mkId x = mkId y) : x = y := by simpa [mkId] using h
def wfI (i : Int) : Prop := (Lit.int .u64 i).wf = true
theorem keyId_mk {i : Int} (h : wfI i) : ∃ l, keyOf Tryd.prog 29 (mkId i) = some l := ⟨_, Maps.keyOf_int_mk Tryd.underlying29 h⟩
theorem depth : ∃ d, Tryd.prog.types.size + 1 = d + 6 := ⟨Tryd.prog.types.size - 5, by
  have : 5 ≤ Tryd.prog.types.size := of_decide_eq_true (by kernel_rfl)
  omega⟩
theorem lits_u64 (d : Nat) {i : Int} (h : wfI i) : Tryd.prog.keyLits (d + 1) 26 [.int .u64 i] = some [.int .u64 i] := by
  unfold Program.keyLits
  rw [Tryd.underlying26]
  exact if_pos ⟨rfl, h⟩
theorem lits_id (d : Nat) {i : Int} (h : wfI i) : Tryd.prog.keyLits (d + 1) 29 [.int .u64 i] = some [.int .u64 i] := by
  unfold Program.keyLits
  rw [Tryd.underlying29]
  exact if_pos ⟨rfl, h⟩
theorem lits_tr (d : Nat) {t : Int × Int} (h : wfI t.1) (h' : wfI t.2) : Tryd.prog.keyLits (d + 2) 28 [.int .u64 t.1, .int .u64 t.2] = some [.int .u64 t.1, .int .u64 t.2] := by
  unfold Program.keyLits
  rw [Tryd.underlying28]
  have e1 := lits_u64 d h
  have e2 := lits_u64 d h'
  have c1 : Tryd.prog.cellsOf 28 = 2 := by kernel_rfl
  have c2 : Tryd.prog.cellsOf 26 = 1 := by kernel_rfl
  simp [c1, c2, e1, e2]
theorem keyTr_mk {t : Int × Int} (h : wfI t.1) (h' : wfI t.2) : ∃ l, keyOf Tryd.prog 28 (mkTr t) = some l := by
  obtain ⟨d, hd⟩ := depth
  have e := lits_tr (d + 4) h h'
  have k : Tryd.prog.keyType 28 = true := by kernel_rfl
  have f : (mkTr t).formed Tryd.prog 28 = true := by unfold mkTr; kernel_rfl
  unfold keyOf
  rw [Tryd.underlying28]
  simp only [k, f, hd, Bool.and_self, if_true]
  exact ⟨_, by rw [show (mkTr t).cells.toList = [.int .u64 t.1, .int .u64 t.2] from rfl, e]; rfl⟩
theorem keyNm_mk {n : (Int × Int) × Int} (h : wfI n.1.1) (h' : wfI n.1.2) (h'' : wfI n.2) : ∃ l, keyOf Tryd.prog 65 (mkNm n) = some l := by
  obtain ⟨d, hd⟩ := depth
  have e1 := lits_tr (d + 3) h h'
  have e2 := lits_id (d + 4) h''
  have c1 : Tryd.prog.cellsOf 28 = 2 := by kernel_rfl
  have c2 : Tryd.prog.cellsOf 29 = 1 := by kernel_rfl
  have c3 : Tryd.prog.cellsOf 65 = 3 := by kernel_rfl
  have e : Tryd.prog.keyLits (d + 6) 65 [.int .u64 n.1.1, .int .u64 n.1.2, .int .u64 n.2] = some [.int .u64 n.1.1, .int .u64 n.1.2, .int .u64 n.2] := by
    unfold Program.keyLits
    rw [Tryd.underlying65]
    simp [c1, c2, c3, e1, e2]
  have k : Tryd.prog.keyType 65 = true := by kernel_rfl
  have f : (mkNm n).formed Tryd.prog 65 = true := by unfold mkNm; kernel_rfl
  unfold keyOf
  rw [Tryd.underlying65]
  simp only [k, f, hd, Bool.and_self, if_true]
  exact ⟨_, by rw [show (mkNm n).cells.toList = [.int .u64 n.1.1, .int .u64 n.1.2, .int .u64 n.2] from rfl, e]; rfl⟩
end Go.Proofs.YthdkgilpnkabmaaDoor.Pr
