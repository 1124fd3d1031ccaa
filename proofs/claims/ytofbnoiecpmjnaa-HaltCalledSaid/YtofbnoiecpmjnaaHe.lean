/- What Spend does where all above have enough. -/
import Derived.Test.YtofbnoiecpmjnaaHd
namespace Go.Proofs.Ytofbnoiecpmjnaa.Pr
open Go.RowKit Go.Proofs.YtofbnoiecpmjnaaW.PrintWords Go.Proofs.YtofbnoiecpmjnaaW.PrintLast Go.Proofs.YtofbnoiecpmjnaaW.PrintMore Go.MuLone
open Go.Lib
set_option linter.unusedVariables false
set_option linter.unusedSimpArgs false
/-- A stop and those above it, one behind the other. -/
def Chain (W : World) (m : Nat) : List (Nat × SR) → Prop
  | [] => True
  | x :: t => IsStop W m x.1 x.2 ∧ x.2.above = t.head?.map Prod.fst ∧ (∀ y ∈ t, y.1 < x.1) ∧ Chain W m t
theorem Chain.move {W W' : World} {m : Nat} : ∀ {t : List (Nat × SR)}, Chain W m t → (∀ x ∈ t, W'.heap[x.1]? = W.heap[x.1]?) → Chain W' m t
  | [], _, _ => trivial
  | x :: t, h, hk => ⟨(hk x List.mem_cons_self).trans h.1, h.2.1, h.2.2.1, h.2.2.2.move (fun y hy => hk y (List.mem_cons_of_mem _ hy))⟩
theorem Chain.stop {W : World} {m : Nat} : ∀ {t : List (Nat × SR)}, Chain W m t → ∀ x ∈ t, IsStop W m x.1 x.2
  | [], _, x, hx => by cases hx
  | y :: t, h, x, hx => by
    rcases List.mem_cons.1 hx with rfl | hx
    · exact h.1
    · exact h.2.2.2.stop x hx
def headP (t : List (Nat × SR)) : Value := upOf (t.head?.map Prod.fst)
def blkOf : Value → Nat
  | .pointer (some a) => a.block + 1
  | _ => 0
def enough (n : Int) (t : List (Nat × SR)) : Prop := ∀ x ∈ t, x.2.bud = true → n ≤ x.2.left ∧ x.2.left ≤ 9223372036854775807
def spent (n : Int) (s : SR) : SR := if s.bud = true then { s with left := s.left - n } else s
def SpendPost (w0 : World) (m : Nat) (n : Int) (ns : List (Nat × SR)) (W : World) (e : Ending) (w' : World) : Prop :=
  e = .returned (.int .i64 0) ∧ IsMu w' m ∧ (∀ x ∈ ns, IsStop w' m x.1 (spent n x.2)) ∧ (∀ k, k ≠ m → (∀ x ∈ ns, k ≠ x.1) → w'.heap[k]? = W.heap[k]?) ∧ w'.heap.size = W.heap.size ∧ Below w0.heap.size w0 w'
set_option maxHeartbeats 2000000 in
theorem spend_ok (w0 : World) (m : Nat) (n : Int) (g : Nat) (s : SR) (t : List (Nat × SR)) (W : World) (hn : 0 ≤ n) (hm : IsMu W m) (hc : Chain W m ((g, s) :: t)) (hw : s.why = 0) (he : enough n ((g, s) :: t)) (hB : Below w0.heap.size w0 W) (hmb : w0.heap.size ≤ m) (hgs : ∀ x ∈ (g, s) :: t, w0.heap.size ≤ x.1) :
    Calls Try.prog 12 #[.pointer (some ⟨g, 0, none⟩), .int .i64 n] W fun e w' => SpendPost w0 m n ((g, s) :: t) W e w' := by
  have hn0 : decide (n < 0) = false := decide_eq_false (by omega)
  have hm0 := hm.free
  have hs : IsStop W m g s := hc.1
  have c0 : W.cell? ⟨g, 0, none⟩ = some (.pointer (some ⟨m, 0, none⟩)) := hs.cell 0 rfl
  have d5 : (W.setCell ⟨m, 0, none⟩ (.int .i32 1)).cell? ⟨g, 5, none⟩ = some (.int .i64 0) := by rw [← hw]; exact cell_held hs hm 5 rfl
  have hne : ∀ x ∈ (g, s) :: t, x.1 ≠ m := fun x hx => ne_mu (hc.stop x hx) hm
  have HC1 := Lib.hid (hc.move (W' := W.setCell ⟨m, 0, none⟩ (.int .i32 1)) (fun x hx => set_far W m 0 _ (hne x hx)))
  have HMH1 := Lib.hid hm.lock
  have HK1 := Lib.hid (show ∀ k, k ≠ m → (W.setCell ⟨m, 0, none⟩ (.int .i32 1)).heap[k]? = W.heap[k]? from fun k hk => set_far W m 0 _ hk)
  have HZ1 := Lib.hid (set_size W ⟨m, 0, none⟩ (.int .i32 1))
  have HE := Lib.hid he
  have HNE := Lib.hid hne
  have HM := Lib.hid hm
  have HB1 := Lib.hid (below_set (j := 0) (v := .int .i32 1) hB hmb)
  have HGS := Lib.hid hgs
  clear hgs hB hc hw he hne hs hm
  go_enter Try.func12, Try.ntmps12
  go_wp2_with (go_at_call 22; refine (lock_free muLib ⟨m, 0, none⟩ _ hm0.1 hm0.2).mono ?_; rintro e w' ⟨rfl, rfl⟩)
  generalize W.setCell ⟨m, 0, none⟩ (.int .i32 1) = W1 at *
  go_loopw [6] (fun v6 wr => ∃ r : List (Nat × SR), v6 = headP r ∧ wr = W1 ∧ Hid (Chain W1 m r) ∧ Hid (enough n r)) (fun v6 _ => blkOf v6)
  case atStart => exact ⟨(g, s) :: t, rfl, rfl, HC1, HE⟩
  case round =>
    obtain ⟨r, rfl, rfl, HR, HEr⟩ := hrel
    cases r with
    | cons x r =>
      obtain ⟨gx, sx⟩ := x
      have hx := HR.out
      have x1 : wr.cell? ⟨gx, 1, none⟩ = some (headP r) := by
        have h := hx.1.cell 1 (v := upOf sx.above) rfl
        have h2 : sx.above = r.head?.map Prod.fst := hx.2.1
        rw [h2] at h; exact h
      have x3 : wr.cell? ⟨gx, 3, none⟩ = some (.bool sx.bud) := hx.1.cell 3 rfl
      have x4 : wr.cell? ⟨gx, 4, none⟩ = some (.int .i64 sx.left) := hx.1.cell 4 rfl
      have HX := Lib.hid hx
      have hle := HEr.out (gx, sx) List.mem_cons_self
      have HRr := Lib.hid hx.2.2.2
      have HEq := Lib.hid (show enough n r from fun y hy => HEr.out y (List.mem_cons_of_mem _ hy))
      have HD := Lib.hid hx.2.2.1
      clear hx
      have HBk := Lib.hid (show blkOf (headP r) < gx + 1 by
        cases r with
        | nil => exact Nat.succ_pos _
        | cons y r => have := HD.out y List.mem_cons_self; show y.1 + 1 < gx + 1; omega)
      generalize hbb : sx.bud = bb at *
      simp only [headP, List.head?_cons, Option.map_some, upOf, ptrOf]
      cases bb
      · go_wp2_with fail
        go_roundw
        case rel =>
          refine ⟨r, ?_, ?_, HRr, HEq⟩
          all_goals first | rfl | trivial
        case measure => exact HBk.out
      · have hd : decide (sx.left < n) = false := decide_eq_false (by have h : n ≤ sx.left := (hle rfl).1; omega)
        go_wp2_with fail
        go_roundw
        case rel =>
          refine ⟨r, ?_, ?_, HRr, HEq⟩
          all_goals first | rfl | trivial
        case measure => exact HBk.out
    | nil =>
      simp only [headP, List.head?_nil, Option.map_none, upOf]
      go_wp2_with fail
      clear HR HEr
      go_loopw [8] (fun v8 wr => ∃ d r : List (Nat × SR), (g, s) :: t = d ++ r ∧ v8 = headP r ∧ Hid (IsMuH wr m) ∧ Hid (∀ x ∈ d, IsStop wr m x.1 (spent n x.2)) ∧ Hid (Chain wr m r) ∧ Hid (∀ x ∈ d, ∀ y ∈ r, y.1 < x.1) ∧
        Hid (∀ k, k ≠ m → (∀ x ∈ d, k ≠ x.1) → wr.heap[k]? = W.heap[k]?) ∧ Hid (wr.heap.size = W.heap.size) ∧ Hid (Below w0.heap.size w0 wr)) (fun v8 _ => blkOf v8)
      case atStart => exact ⟨[], (g, s) :: t, rfl, rfl, HMH1, Lib.hid (fun x hx => by cases hx), HC1, Lib.hid (fun x hx => by cases hx), Lib.hid (fun k h1 _ => HK1.out k h1), HZ1, HB1⟩
      case round =>
        obtain ⟨d, r, hdr, rfl, HMH, HD, HR, HO, HK, HZ, HB⟩ := hrel
        have HDR := Lib.hid hdr
        clear hdr
        cases r with
        | cons x r =>
          obtain ⟨gx, sx⟩ := x
          have hx := HR.out
          have x1 : wr.cell? ⟨gx, 1, none⟩ = some (headP r) := by
            have h := hx.1.cell 1 (v := upOf sx.above) rfl
            have h2 : sx.above = r.head?.map Prod.fst := hx.2.1
            rw [h2] at h; exact h
          have x3 : wr.cell? ⟨gx, 3, none⟩ = some (.bool sx.bud) := hx.1.cell 3 rfl
          have x4 : wr.cell? ⟨gx, 4, none⟩ = some (.int .i64 sx.left) := hx.1.cell 4 rfl
          have f4 := hx.1.frozen 4
          have HX := Lib.hid hx
          have hmem : (gx, sx) ∈ (g, s) :: t := by rw [HDR.out]; simp
          have hle := HE.out (gx, sx) hmem
          have hgm : gx ≠ m := HNE.out (gx, sx) hmem
          have hgb : w0.heap.size ≤ gx := HGS.out (gx, sx) hmem
          have HBk := Lib.hid (show blkOf (headP r) < gx + 1 by
            have hd := hx.2.2.1
            cases r with
            | nil => exact Nat.succ_pos _
            | cons y r => have := hd y List.mem_cons_self; show y.1 + 1 < gx + 1; omega)
          have HDR2 := Lib.hid (show (g, s) :: t = (d ++ [(gx, sx)]) ++ r by rw [HDR.out]; simp)
          have HO2 := Lib.hid (show ∀ x ∈ d ++ [(gx, sx)], ∀ y ∈ r, y.1 < x.1 by
            intro x hxm y hy
            rcases List.mem_append.1 hxm with h | h
            · exact HO.out x h y (List.mem_cons_of_mem _ hy)
            · simp at h; subst h; exact hx.2.2.1 y hy)
          have HGd := Lib.hid (show ∀ x ∈ d, x.1 ≠ gx from fun x hxm => by have := HO.out x hxm (gx, sx) List.mem_cons_self; exact Nat.ne_of_gt this)
          have HGr := Lib.hid (show ∀ y ∈ r, y.1 ≠ gx from fun y hy => Nat.ne_of_lt (hx.2.2.1 y hy))
          have HK2 := Lib.hid (show ∀ k, k ≠ m → (∀ x ∈ d ++ [(gx, sx)], k ≠ x.1) → wr.heap[k]? = W.heap[k]? ∧ k ≠ gx from fun k h1 h2 => ⟨HK.out k h1 (fun x hxm => h2 x (List.mem_append.2 (.inl hxm))), h2 (gx, sx) (by simp)⟩)
          clear hx hmem
          simp only [headP, List.head?_cons, Option.map_some, upOf, ptrOf]
          cases hbb : sx.bud with
          | false =>
            rw [hbb] at x3
            have hsp : spent n sx = sx := by unfold spent; rw [hbb]; rfl
            have HSP := Lib.hid hsp
            clear hsp hbb hle
            go_wp2_with fail
            go_roundw
            case rel =>
              refine ⟨d ++ [(gx, sx)], r, HDR2.out, by first | rfl | trivial, HMH, Lib.hid ?_, Lib.hid HX.out.2.2.2, HO2, Lib.hid (fun k h1 h2 => (HK2.out k h1 h2).1), HZ, HB⟩
              intro x hxm
              rcases List.mem_append.1 hxm with h | h
              · exact HD.out x h
              · simp at h; subst h; show IsStop _ m gx (spent n sx); rw [HSP.out]; exact HX.out.1
            case measure => exact HBk.out
          | true =>
            rw [hbb] at x3
            have hle2 : n ≤ sx.left ∧ sx.left ≤ 9223372036854775807 := hle hbb
            have hwr : wrap64 (sx.left - n) = sx.left - n := by unfold wrap64; omega
            have HWR := Lib.hid hwr
            have hst := blk_set HX.out.1 4 (.int .i64 (wrap64 (sx.left - n)))
            have HST := Lib.hid (show IsStop (wr.setCell ⟨gx, 4, none⟩ (.int .i64 (wrap64 (sx.left - n)))) m gx (spent n sx) by
              have hsp : spent n sx = { sx with left := sx.left - n } := by unfold spent; rw [if_pos hbb]
              rw [hsp]; rw [HWR.out] at hst ⊢; exact hst)
            have HMH2 := Lib.hid (show IsMuH (wr.setCell ⟨gx, 4, none⟩ (.int .i64 (wrap64 (sx.left - n)))) m from (set_far wr gx 4 _ (Ne.symm hgm)).trans HMH.out)
            have HD2 := Lib.hid (show ∀ x ∈ d, IsStop (wr.setCell ⟨gx, 4, none⟩ (.int .i64 (wrap64 (sx.left - n)))) m x.1 (spent n x.2) from fun x hxm => (set_far wr gx 4 _ (HGd.out x hxm)).trans (HD.out x hxm))
            have HR2 := Lib.hid (HX.out.2.2.2.move (W' := wr.setCell ⟨gx, 4, none⟩ (.int .i64 (wrap64 (sx.left - n)))) (fun y hy => set_far wr gx 4 _ (HGr.out y hy)))
            have HK3 := Lib.hid (show ∀ k, k ≠ m → (∀ x ∈ d ++ [(gx, sx)], k ≠ x.1) → (wr.setCell ⟨gx, 4, none⟩ (.int .i64 (wrap64 (sx.left - n)))).heap[k]? = W.heap[k]? from fun k h1 h2 => (set_far wr gx 4 _ (HK2.out k h1 h2).2).trans (HK2.out k h1 h2).1)
            have HZ3 := Lib.hid (show (wr.setCell ⟨gx, 4, none⟩ (.int .i64 (wrap64 (sx.left - n)))).heap.size = W.heap.size by rw [set_size]; exact HZ.out)
            have HB3 := Lib.hid (below_set (j := 4) (v := .int .i64 (wrap64 (sx.left - n))) HB.out hgb)
            clear hst hwr hle hle2 hbb
            go_wp2_with fail
            go_roundw
            case rel =>
              refine ⟨d ++ [(gx, sx)], r, HDR2.out, by first | rfl | trivial, HMH2, Lib.hid ?_, HR2, HO2, HK3, HZ3, HB3⟩
              intro x hxm
              rcases List.mem_append.1 hxm with h | h
              · exact HD2.out x h
              · simp at h; subst h; exact HST.out
            case measure => exact HBk.out
        | nil =>
          have hd : d = (g, s) :: t := by rw [HDR.out]; simp
          subst hd
          have hs0 := HD.out (g, s) List.mem_cons_self
          have c0 : wr.cell? ⟨g, 0, none⟩ = some (.pointer (some ⟨m, 0, none⟩)) := hs0.cell 0 rfl
          have hmc := HMH.out.cell
          simp only [headP, List.head?_nil, Option.map_none, upOf]
          go_wp2_with fail
          refine (unlock_held muLib ⟨m, 0, none⟩ _ hmc.1 hmc.2).mono ?_
          rintro e w' ⟨rfl, rfl⟩
          go_wp2_with fail
          go_ret
          exact ⟨rfl, HMH.out.unlock, fun x hx => (set_far wr m 0 _ (HNE.out x hx)).trans (HD.out x hx), fun k h1 h2 => (set_far wr m 0 _ h1).trans (HK.out k h1 h2), by rw [set_size]; exact HZ.out, below_set HB.out hmb⟩
end Go.Proofs.Ytofbnoiecpmjnaa.Pr
