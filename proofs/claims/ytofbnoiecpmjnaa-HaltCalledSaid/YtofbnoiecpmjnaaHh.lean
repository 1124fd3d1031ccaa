/- Cancel of a stop that is cancelled already; append of nothing to nothing. -/
import Derived.Test.YtofbnoiecpmjnaaHd
namespace Go.Proofs.Ytofbnoiecpmjnaa.Pr
open Go.RowKit Go.Proofs.YtofbnoiecpmjnaaW.PrintWords Go.Proofs.YtofbnoiecpmjnaaW.PrintLast Go.Proofs.YtofbnoiecpmjnaaW.PrintMore Go.MuLone
open Go.Lib
set_option linter.unusedVariables false
set_option linter.unusedSimpArgs false
theorem infoC87 : (Try.prog.info? 87).map (fun i => (i.zero, i.size, i.bytes)) = some (some (.pointer none), 1, 8) := by kernel_rfl
theorem app_nil (ty : TypeId) (W : World) : (Builtin.append_ #[68, 68] ty #[.slice none 0 0, .slice none 0 0]).run Try.prog W = .ok (.slice none 0 0) W := by
  obtain ⟨i0, hi, _⟩ := Option.map_eq_some_iff.1 infoC87
  simp [Builtin.append_, run_underlying Try.underlying68, sizeOf, typeInfo, hi, Builtin.lenOf, Builtin.firstCells]
theorem cancel_done (m g : Nat) (s : SR) (why : Int) (W : World) (hs : IsStop W m g s) (hw : s.why ≠ 0) :
    Calls Try.prog 24 #[.pointer (some ⟨g, 0, none⟩), .int .i64 why] W fun e w' => e = .returned (.slice none 0 0) ∧ w' = W := by
  have c5 : W.cell? ⟨g, 5, none⟩ = some (.int .i64 s.why) := hs.cell 5 rfl
  have hb : (s.why != 0) = true := bne_iff_ne.mpr hw
  have hb2 : (s.why == 0) = false := beq_eq_false_iff_ne.mpr hw
  go_enter Try.func24, Try.ntmps24
  go_wp2_with fail
  go_ret
  exact ⟨rfl, rfl⟩
set_option maxHeartbeats 1000000 in
/-- Spend of a stop that is cancelled already: its reason. -/
theorem spend_done (m : Nat) (n : Int) (g : Nat) (s : SR) (W : World) (hn : 0 ≤ n) (hm : IsMu W m) (hs : IsStop W m g s) (hw : s.why ≠ 0) :
    Calls Try.prog 12 #[.pointer (some ⟨g, 0, none⟩), .int .i64 n] W fun e w' => e = .returned (.int .i64 s.why) ∧ w' = W := by
  have hn0 : decide (n < 0) = false := decide_eq_false (by omega)
  have hm0 := hm.free
  have c0 : W.cell? ⟨g, 0, none⟩ = some (.pointer (some ⟨m, 0, none⟩)) := hs.cell 0 rfl
  have d0 : (W.setCell ⟨m, 0, none⟩ (.int .i32 1)).cell? ⟨g, 0, none⟩ = some (.pointer (some ⟨m, 0, none⟩)) := cell_held hs hm 0 rfl
  have d5 : (W.setCell ⟨m, 0, none⟩ (.int .i32 1)).cell? ⟨g, 5, none⟩ = some (.int .i64 s.why) := cell_held hs hm 5 rfl
  have hb : (s.why != 0) = true := bne_iff_ne.mpr hw
  have hb2 : (s.why == 0) = false := beq_eq_false_iff_ne.mpr hw
  have hmh := hm.held
  go_enter Try.func12, Try.ntmps12
  go_wp2_with (go_at_call 22; refine (lock_free muLib ⟨m, 0, none⟩ _ hm0.1 hm0.2).mono ?_; rintro e w' ⟨rfl, rfl⟩)
  refine (unlock_held muLib ⟨m, 0, none⟩ _ hmh.1 hmh.2).mono ?_
  rintro e w' ⟨rfl, rfl⟩
  go_wp2_with fail
  go_ret
  exact ⟨rfl, lock_back hm⟩
end Go.Proofs.Ytofbnoiecpmjnaa.Pr
