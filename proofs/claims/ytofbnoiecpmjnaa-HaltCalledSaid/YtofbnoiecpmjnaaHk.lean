/- What Spend does where one above has too little. -/
import Derived.Test.YtofbnoiecpmjnaaHj
import Derived.Test.YtofbnoiecpmjnaaHf
namespace Go.Proofs.Ytofbnoiecpmjnaa.Pr
open Go.RowKit Go.Proofs.YtofbnoiecpmjnaaW.PrintWords Go.Proofs.YtofbnoiecpmjnaaW.PrintLast Go.Proofs.YtofbnoiecpmjnaaW.PrintMore Go.MuLone
open Go.Lib
set_option linter.unusedVariables false
set_option linter.unusedSimpArgs false
def ShortAt (w0 : World) (m : Nat) (ds : List (Nat × SR)) (W : World) (e : Ending) (w' : World) : Prop :=
  e = .returned (.int .i64 31) ∧ IsMu w' m ∧ (∀ x ∈ ds, IsStop w' m x.1 (cutSR x.2 31) ∧ IsCh w' x.2.chn true) ∧ Below w0.heap.size w0 w' ∧ (∀ k, k ≠ m → (∀ x ∈ ds, k ≠ x.1 ∧ k ≠ x.2.chn) → w'.heap[k]? = W.heap[k]?) ∧ w'.heap.size = W.heap.size
theorem Down.stops {W : World} {m b : Nat} : ∀ {l : List (Nat × SR)}, Down W m b l → ∀ z ∈ l, IsStop W m z.1 z.2 ∧ IsCh W z.2.chn false
  | [], _, z, hz => by cases hz
  | a :: l, h, z, hz => by
    rcases List.mem_cons.1 hz with rfl | hz
    · exact ⟨h.1, h.2.2.1⟩
    · exact h.2.2.2.2.2.2.2.stops z hz
theorem Down.lock {W W' : World} {m base : Nat} : ∀ {t : List (Nat × SR)}, Down W m base t → (∀ k, k ≠ m → W'.heap[k]? = W.heap[k]?) → (∃ o : Array Value, W.heap[m]? = some (.cells o 66 (0, 0))) → Down W' m base t
  | [], _, _, _ => trivial
  | x :: t, h, hk, ⟨o, hm⟩ => by
    obtain ⟨h1, h2, h3, h4, h5, h6, h7, h8⟩ := h
    have sm : ∀ {g : Nat} {s : SR}, IsStop W m g s → g ≠ m := by
      rintro g s h rfl; unfold IsStop at h; rw [h] at hm; cases hm
    have rowk : ∀ {und : Value} {g1 : Nat}, RowOne W und g1 → RowOne W' und g1 := by
      rintro und g1 ⟨ad, cap, cs, e1, e2, e3⟩
      refine ⟨ad, cap, cs, e1, (hk ad ?_).trans e2, e3⟩
      rintro rfl; rw [e2] at hm; cases hm
    refine ⟨(hk x.1 (sm h1)).trans h1, h2, (hk x.2.chn ?_).trans h3, h4, h5, ?_, h7, h8.lock hk ⟨o, hm⟩⟩
    · intro e; unfold IsCh chObj at h3; rw [e, hm] at h3; cases h3
    · cases t with
      | nil =>
        rcases h6 with h6 | ⟨g1, s1, r1, r2, r3⟩
        · exact .inl h6
        · exact .inr ⟨g1, s1, rowk r1, (hk g1 (sm r2)).trans r2, r3⟩
      | cons y t => exact rowk h6
set_option maxHeartbeats 2000000 in
theorem spend_short (w0 : World) (m : Nat) (n : Int) (g : Nat) (s : SR) (t pre rest : List (Nat × SR)) (x : Nat × SR) (ds : List (Nat × SR)) (W : World) (hn : 0 ≤ n) (hm : IsMu W m) (hc : Chain W m ((g, s) :: t)) (hw : s.why = 0) (hpre : (g, s) :: t = pre ++ x :: rest) (he : enough n pre)
    (hb : x.2.bud = true) (hl : x.2.left < n) (hd : Down W m w0.heap.size (x :: ds)) (hB : Below w0.heap.size w0 W) (hmb : w0.heap.size ≤ m) :
    Calls Try.prog 12 #[.pointer (some ⟨g, 0, none⟩), .int .i64 n] W fun e w' => ShortAt w0 m (x :: ds) W e w' := by
  have hn0 : decide (n < 0) = false := decide_eq_false (by omega)
  have hm0 := hm.free
  have hs : IsStop W m g s := hc.1
  have c0 : W.cell? ⟨g, 0, none⟩ = some (.pointer (some ⟨m, 0, none⟩)) := hs.cell 0 rfl
  have d0 : (W.setCell ⟨m, 0, none⟩ (.int .i32 1)).cell? ⟨g, 0, none⟩ = some (.pointer (some ⟨m, 0, none⟩)) := cell_held hs hm 0 rfl
  have d5 : (W.setCell ⟨m, 0, none⟩ (.int .i32 1)).cell? ⟨g, 5, none⟩ = some (.int .i64 0) := by rw [← hw]; exact cell_held hs hm 5 rfl
  have hne : ∀ x ∈ (g, s) :: t, x.1 ≠ m := fun x hx => ne_mu (hc.stop x hx) hm
  have hc1 := hc.move (W' := W.setCell ⟨m, 0, none⟩ (.int .i32 1)) (fun x hx => set_far W m 0 _ (hne x hx))
  have hcut := cancel_down w0 m 31 ds x (W.setCell ⟨m, 0, none⟩ (.int .i32 1)) hm.lock (hd.lock (fun k hk => set_far W m 0 _ hk) ⟨_, hm⟩) (below_set hB hmb)
  have hds := hd.stops
  have HF := Lib.hid (show ∀ z ∈ x :: ds, z.1 ≠ m ∧ z.2.chn ≠ m from fun z hz => ⟨ne_mu (hds z hz).1 hm, by
    intro e; have h := (hds z hz).2; unfold IsCh chObj at h; unfold IsMu at hm; rw [e, hm] at h; cases h⟩)
  have HGC := Lib.hid (show ∀ z ∈ x :: ds, g ≠ z.2.chn from fun z hz => stop_ne_ch hs (hds z hz).2)
  have HGM := Lib.hid (show g ≠ m from hne (g, s) List.mem_cons_self)
  have HCL := Lib.hid hcut
  have HC1 := Lib.hid hc1
  have HP := Lib.hid hpre
  have HE := Lib.hid he
  have HK1 := Lib.hid (show ∀ k, k ≠ m → (W.setCell ⟨m, 0, none⟩ (.int .i32 1)).heap[k]? = W.heap[k]? from fun k hk => set_far W m 0 _ hk)
  have HZ1 := Lib.hid (set_size W ⟨m, 0, none⟩ (.int .i32 1))
  obtain ⟨gx, sx⟩ := x
  have hb' : sx.bud = true := hb
  have hl' : decide (sx.left < n) = true := decide_eq_true hl
  have HBX := Lib.hid hb'
  clear hc hw he hne hs hm hc1 hcut hds hd hpre hb hb' hB
  go_enter Try.func12, Try.ntmps12
  go_wp2_with (go_at_call 22; refine (lock_free muLib ⟨m, 0, none⟩ _ hm0.1 hm0.2).mono ?_; rintro e w' ⟨rfl, rfl⟩)
  generalize W.setCell ⟨m, 0, none⟩ (.int .i32 1) = W1 at *
  go_loopw [6] (fun v6 wr => ∃ q : List (Nat × SR), v6 = headP (q ++ (gx, sx) :: rest) ∧ wr = W1 ∧ Hid (Chain W1 m (q ++ (gx, sx) :: rest)) ∧ Hid (enough n q)) (fun v6 _ => blkOf v6)
  case atStart => exact ⟨pre, by rw [← HP.out]; rfl, rfl, Lib.hid (by rw [← HP.out]; exact HC1.out), HE⟩
  case round =>
    obtain ⟨q, rfl, rfl, HR, HEr⟩ := hrel
    cases q with
    | nil =>
      have hx := HR.out
      have x3 : wr.cell? ⟨gx, 3, none⟩ = some (.bool true) := by rw [← HBX.out]; exact hx.1.cell 3 rfl
      have x4 : wr.cell? ⟨gx, 4, none⟩ = some (.int .i64 sx.left) := hx.1.cell 4 rfl
      clear hx
      simp only [headP, List.nil_append, List.head?_cons, Option.map_some, upOf, ptrOf]
      go_wp2_with fail
      refine HCL.out.mono ?_
      rintro e w2 ⟨rfl, hm2, hs2, hb2, hk2, hz2⟩
      have e0 : w2.cell? ⟨g, 0, none⟩ = some (.pointer (some ⟨m, 0, none⟩)) := by
        by_cases hin : ∃ z ∈ (gx, sx) :: ds, g = z.1
        · obtain ⟨z, hz, rfl⟩ := hin
          exact (hs2 z hz).1.cell 0 rfl
        · exact (World.cell?_of_block (a := ⟨g, 0, none⟩) (hk2 g (fun z hz => ⟨fun e => hin ⟨z, hz, e⟩, HGC.out z hz⟩))).trans d0
      have HM2 := Lib.hid hm2
      have HS2 := Lib.hid hs2
      have HB2 := Lib.hid hb2
      have HK2 := Lib.hid hk2
      have HZ2 := Lib.hid hz2
      clear hm2 hs2 hb2 hk2 hz2
      go_wp2_with fail
      refine (unlock_held muLib ⟨m, 0, none⟩ _ HM2.out.cell.1 HM2.out.cell.2).mono ?_
      rintro e w3 ⟨rfl, rfl⟩
      go_wp2_with fail
      refine (run_nil g 31 _).mono ?_
      rintro e w4 ⟨rfl, rfl⟩
      go_wp2_with fail
      go_ret
      exact ⟨rfl, HM2.out.unlock, fun z hz => ⟨(set_far w2 m 0 _ (HF.out z hz).1).trans (HS2.out z hz).1, (set_far w2 m 0 _ (HF.out z hz).2).trans (HS2.out z hz).2⟩, below_set HB2.out hmb,
        fun k h1 h2 => (set_far w2 m 0 _ h1).trans ((HK2.out k h2).trans (HK1.out k h1)), by rw [set_size, HZ2.out, HZ1.out]⟩
    | cons z q =>
      obtain ⟨gz, sz⟩ := z
      have hx := HR.out
      have x1 : wr.cell? ⟨gz, 1, none⟩ = some (headP (q ++ (gx, sx) :: rest)) := by
        have h := hx.1.cell 1 (v := upOf sz.above) rfl
        have h2 : sz.above = (q ++ (gx, sx) :: rest).head?.map Prod.fst := hx.2.1
        rw [h2] at h; exact h
      have x3 : wr.cell? ⟨gz, 3, none⟩ = some (.bool sz.bud) := hx.1.cell 3 rfl
      have x4 : wr.cell? ⟨gz, 4, none⟩ = some (.int .i64 sz.left) := hx.1.cell 4 rfl
      have hle := HEr.out (gz, sz) List.mem_cons_self
      have HRr := Lib.hid (show Chain wr m (q ++ (gx, sx) :: rest) from hx.2.2.2)
      have HEq := Lib.hid (show enough n q from fun y hy => HEr.out y (List.mem_cons_of_mem _ hy))
      have HD := Lib.hid (show ∀ y ∈ q ++ (gx, sx) :: rest, y.1 < gz from hx.2.2.1)
      have HBk := Lib.hid (show blkOf (headP (q ++ (gx, sx) :: rest)) < gz + 1 by
        cases hq : q ++ (gx, sx) :: rest with
        | nil => exact Nat.succ_pos _
        | cons y r => have := HD.out y (by rw [hq]; exact List.mem_cons_self); show y.1 + 1 < gz + 1; omega)
      clear hx
      simp only [List.cons_append]
      obtain ⟨u, hu⟩ : ∃ u, u = headP (q ++ (gx, sx) :: rest) := ⟨_, rfl⟩
      rw [← hu] at x1
      have HU := Lib.hid hu
      clear hu
      show Code.wp _ _ _ _ _
      rw [show headP ((gz, sz) :: (q ++ (gx, sx) :: rest)) = .pointer (some ⟨gz, 0, none⟩) from rfl]
      generalize sz.bud = bb at *
      cases bb
      · go_wp2_with fail
        go_roundw
        case rel => exact ⟨q, HU.out, by first | rfl | trivial, HRr, HEq⟩
        case measure => rw [HU.out]; exact HBk.out
      · have hd : decide (sz.left < n) = false := decide_eq_false (by have h : n ≤ sz.left := (hle rfl).1; omega)
        go_wp2_with fail
        go_roundw
        case rel => exact ⟨q, HU.out, by first | rfl | trivial, HRr, HEq⟩
        case measure => rw [HU.out]; exact HBk.out
end Go.Proofs.Ytofbnoiecpmjnaa.Pr
