/- SampleDecides: its walk. -/
import Derived.Test.YtdlnfmakfnggpaaDoorXSv
import Derived.Test.YtdlnfmakfnggpaaDoorXAm
import Derived.Test.YtdlnfmakfnggpaaDoorMi
import Derived.Test.YtdlnfmakfnggpaaDoorXQt
namespace Go.Proofs.YtdlnfmakfnggpaaDoor.Pr
open Go.RowKit Go.Lib Go.Proofs.YtdlnfmakfnggpaaDoorW.PrintWords Go.Proofs.YtdlnfmakfnggpaaDoorW.PrintLast Go.Proofs.YtdlnfmakfnggpaaDoorW.PrintMore Mg
set_option linter.unusedVariables false
set_option linter.unusedSimpArgs false
theorem eqV45 (d : Nat) (w : World) (x0 y0 : Int) (x1 y1 : Int) :
    (Op.equalIn (d + 2) 45 (.agg #[.int .u64 x0, .int .u64 x1]) (.agg #[.int .u64 y0, .int .u64 y1])).run Tryd.prog w = .ok (x0 == y0 && (x1 == y1)) w := by
  refine eqA_of Tryd.underlying45 (by kernel_rfl) ?_
  refine eqf_cons (by rfl) (by go_simp; rfl) (by go_simp; rfl) (by go_simp) ?_
  exact eqf_last (by rfl) (by go_simp; rfl) (by go_simp; rfl) (by go_simp)
theorem eqV47 (d : Nat) (w : World) (a b : Bool) (p q x0 y0 x1 y1 : Int) :
    (Op.equalIn (d + 3) 47 (.agg #[.bool a, .int .i64 p, .int .u64 x0, .int .u64 x1]) (.agg #[.bool b, .int .i64 q, .int .u64 y0, .int .u64 y1])).run Tryd.prog w = .ok (a == b && (p == q && (x0 == y0 && (x1 == y1)))) w := by
  refine eqA_of Tryd.underlying47 (by kernel_rfl) ?_
  refine eqf_cons (by rfl) (by go_simp; rfl) (by go_simp; rfl) (by go_simp) ?_
  refine eqf_cons (by rfl) (by go_simp; rfl) (by go_simp; rfl) (by go_simp) ?_
  refine eqf_last (by rfl) (by go_simp; rfl) (by go_simp; rfl) ?_
  exact eqV45 d w x0 y0 x1 y1
attribute [local go_sem high] eqV47
theorem info30d : (Tryd.prog.info? 30).map (fun i => (i.zero, i.size, i.bytes)) = some (some (.agg #[.int .i64 0, .int .u64 0, .string ByteArray.empty, .int .i64 0]), 4, 40) := by kernel_rfl
theorem k30_KMd (w : World) (base : Nat) (x : S30) (cs : List Value) (h : k30.K w x cs) : k30.M w base (fun _ => False) x cs := by
  obtain rfl := k30_open h
  exact k30_mkM _ _ _ x
def VerdPost (vk : Bool) (vp vw er : Int) (W : World) (e : Ending) (w' : World) : Prop := e = .returned (.tuple #[.agg #[.bool vk, .int .i64 vp, .int .u64 0, .int .u64 vw], .int .i64 er]) ∧ Below W.heap.size W w'
/-- A span's clone, the row of spans so far aside: what the append asks. -/
theorem clone_run (x : S43) (hx : okS x) (w : World) (A4 : Option Addr) (c4 : Nat) (A11 : Option Addr) (c11 : Nat) (A12 : Option Addr) (c12 : Nat) (r4 : Kd.C (Kd.int .u64) w A4 x.f3.length x.f3) (l4 : x.f3.length ≤ c4) (r11 : Kd.C k120 w A11 x.f10.length x.f10) (l11 : x.f10.length ≤ c11) (r12 : Kd.C k122 w A12 x.f11.length x.f11) (l12 : x.f11.length ≤ c12)
    (base : Nat) (hbase : base ≤ w.heap.size) (v : Value) (xs : List S43) (HO : Kd.S k43 43 w base (fun _ => True) v xs) :
    Calls Tryd.prog 17 #[.agg #[.int .u64 x.f0.f0, .int .u64 x.f0.f1, .int .u64 x.f1, .int .u64 x.f2, .slice A4 x.f3.length c4, .string x.f4, .string x.f5, .int .i64 x.f6, .int .i64 x.f7, .int .i64 x.f8, .int .i64 x.f9, .slice A11 x.f10.length c11, .slice A12 x.f11.length c12]] w fun e w' =>
      ∃ (v4 v11 v12 : Value) (okp : Nat → Prop), e = .returned (.agg #[.int .u64 x.f0.f0, .int .u64 x.f0.f1, .int .u64 x.f1, .int .u64 x.f2, v4, .string x.f4, .string x.f5, .int .i64 x.f6, .int .i64 x.f7, .int .i64 x.f8, .int .i64 x.f9, v11, v12]) ∧
        k43.M w' base okp x [.int .u64 x.f0.f0, .int .u64 x.f0.f1, .int .u64 x.f1, .int .u64 x.f2, v4, .string x.f4, .string x.f5, .int .i64 x.f6, .int .i64 x.f7, .int .i64 x.f8, .int .i64 x.f9, v11, v12] ∧
        (∀ k, okp k → some k ≠ v.ownBlock) ∧ Kd.S k43 43 w' base (fun k => True ∧ ¬ okp k) v xs ∧ Below w.heap.size w w' := by
  refine (spoorref04_Clone.calls _ _ _ _ A4 c4 x.f3 _ _ _ _ _ _ A11 c11 x.f10 A12 c12 x.f11 _ _ _ _ _ _ _ _ _ _ _ _ _ w r4 l4 r11 l11 r12 l12 (clone_val x hx)).mono ?_
  rintro e w' ⟨v4, v11, v12, rfl, h4, h11, h12, hb⟩
  have a4 := Kd.R_apart' h4 (Kd.S_typed (Kd.S_below HO hb)) (by decide)
  have a11 := Kd.R_apart' h11 (Kd.S_typed (Kd.S_below HO hb)) (by decide)
  have a12 := Kd.R_apart' h12 (Kd.S_typed (Kd.S_below HO hb)) (by decide)
  have b4 := Kd.R_base h4
  have b11 := Kd.R_base h11
  have b12 := Kd.R_base h12
  refine ⟨v4, v11, v12, fun k => some k = v4.ownBlock ∨ some k = v11.ownBlock ∨ some k = v12.ownBlock, rfl, ?_, ?_, ?_, hb⟩
  · exact k43_mkM _ _ _ x (Kd.R_mono (Kd.R_tight rfl (Kd.R_lower h4 hbase)) (fun _ h => Or.inl h)) (Kd.R_mono (Kd.R_tight rfl (Kd.R_lower h11 hbase)) (fun _ h => Or.inr (Or.inl h))) (Kd.R_mono (Kd.R_tight rfl (Kd.R_lower h12 hbase)) (fun _ h => Or.inr (Or.inr h)))
  · rintro k (h | h | h)
    · exact (a4.1 k h.symm).2
    · exact (a11.1 k h.symm).2
    · exact (a12.1 k h.symm).2
  · refine Kd.S_mono (Kd.S_old HO hb) (fun k hk => ⟨trivial, ?_⟩)
    rintro (h | h | h)
    · have := b4 k h.symm; omega
    · have := b11 k h.symm; omega
    · have := b12 k h.symm; omega
/-- A span and a clone of it are alike. -/
def CmpOK (x : S43) : Prop := ∀ (W : World) (A4 : Option Addr) (c4 : Nat) (A11 : Option Addr) (c11 : Nat) (A12 : Option Addr) (c12 : Nat) (B4 : Option Addr) (d4 : Nat) (B11 : Option Addr) (d11 : Nat) (B12 : Option Addr) (d12 : Nat),
  Kd.C (Kd.int .u64) W A4 x.f3.length x.f3 → x.f3.length ≤ c4 → Kd.C k120 W A11 x.f10.length x.f10 → x.f10.length ≤ c11 → Kd.C k122 W A12 x.f11.length x.f11 → x.f11.length ≤ c12 →
  Kd.C (Kd.int .u64) W B4 x.f3.length x.f3 → x.f3.length ≤ d4 → Kd.C k120 W B11 x.f10.length x.f10 → x.f10.length ≤ d11 → Kd.C k122 W B12 x.f11.length x.f11 → x.f11.length ≤ d12 →
  Calls Tryd.prog 20 #[.agg #[.int .u64 x.f0.f0, .int .u64 x.f0.f1, .int .u64 x.f1, .int .u64 x.f2, .slice A4 x.f3.length c4, .string x.f4, .string x.f5, .int .i64 x.f6, .int .i64 x.f7, .int .i64 x.f8, .int .i64 x.f9, .slice A11 x.f10.length c11, .slice A12 x.f11.length c12],
    .agg #[.int .u64 x.f0.f0, .int .u64 x.f0.f1, .int .u64 x.f1, .int .u64 x.f2, .slice B4 x.f3.length d4, .string x.f4, .string x.f5, .int .i64 x.f6, .int .i64 x.f7, .int .i64 x.f8, .int .i64 x.f9, .slice B11 x.f10.length d11, .slice B12 x.f11.length d12]] W fun e w' => e = .returned (.int .i64 0) ∧ Below W.heap.size W w'
def spareS : S43 := ⟨⟨0, 0⟩, 0, 0, [], ⟨#[115, 112, 97, 114, 101]⟩, ⟨#[]⟩, 0, 0, 0, 0, [], []⟩
set_option maxHeartbeats 8000000 in
set_option maxRecDepth 100000 in
theorem decides_run (A0 : Option Addr) (c0 : Nat) (l0 : List S30) (A1 : Option Addr) (c1 : Nat) (l1 : List S43) (w : World) (hr0 : Kd.C k30 w A0 l0.length l0) (hc0 : l0.length ≤ c0) (hr1 : Kd.C k43 w A1 l1.length l1) (hc1 : l1.length ≤ c1)
    (hl0 : l0.length * 40 ≤ 140737488351232) (hl1 : l1.length ≤ 837723144970) (hS : ∀ x ∈ l1, okS x) (K : Nat) (wt : Int) (hw : spoorlaw21_weight.f K l1 = some wt)
    (vk : Bool) (vp vw er : Int)
    (d1 : ∀ (W : World) (A B : Option Addr) (c c' : Nat), Below w.heap.size w W → Kd.C k30 W A l0.length l0 → l0.length ≤ c → Kd.C k43 W B l1.length l1 → l1.length ≤ c' → Calls Tryd.prog 18 #[.slice A l0.length c, .slice B l1.length c'] W (VerdPost vk vp vw er W))
    (d2 : ∀ (W : World) (A B : Option Addr) (c c' : Nat), Below w.heap.size w W → Kd.C k30 W A l0.length l0 → l0.length ≤ c → Kd.C k43 W B l1.length l1 → l1.length ≤ c' → Calls Tryd.prog 19 #[.slice A l0.length c, .slice B l1.length c'] W (VerdPost vk vp vw er W))
    (d3 : ∀ x ∈ l1, CmpOK x) :
    Calls Tryd.prog 5 #[.slice A0 l0.length c0, .slice A1 l1.length c1] w (BoolPost w true) := by
  have HR0 := Lib.hid hr0
  have HR1 := Lib.hid hr1
  have HD1 := Lib.hid d1
  have HD2 := Lib.hid d2
  have HSx := Lib.hid hS
  have HD3 := Lib.hid d3
  have HW := Lib.hid hw
  clear hr0 hr1 d1 d2 d3 hS hw
  go_enter Tryd.func5, Tryd.ntmps5
  go_wp2_with fail
  refine (alive_run _).mono ?_
  rintro e w1 ⟨rfl, hb⟩
  have HB1 := Lib.hid hb
  clear hb
  go_wp2_with fail
  refine (spoorlaw21_weight.calls K A1 c1 l1 wt _ (Kd.C_below HR1.out HB1.out) hc1 HW.out).mono ?_
  rintro e w2 ⟨rfl, hd⟩
  have hb : Below w1.heap.size w1 w2 := hd.below
  have HB2 := Lib.hid (HB1.out.trans (hb.mono HB1.out.size))
  clear hd hb
  go_wp2_with (first
    | (at_builtin; refine Kd.R_append_rows k30 (Rr := k30.K w2) (w0 := w) w.heap.size rfl (.tmp 20) (.tmp 21) 27 30 (.agg #[.int .i64 0, .int .u64 0, .string ByteArray.empty, .int .i64 0]) 40 rfl Tryd.underlying27 info30d rfl (by decide) (by decide) (.slice none 0 0) ([] : List S30) l0 A0 l0.length c0 (fun _ => True) (fun _ => False) rfl rfl (Kd.R_nil _ _ _ _ _) (Kd.C_below HR0.out HB2.out) (fun x cs h => k30_KMd w2 _ x cs h) (fun _ hk => hk.elim) (fun _ _ => trivial) HB2.out HB2.out.size (by simp; omega) ?_; intro v1 w3 ho hb hg hat; have HO1 := Lib.hid ho; have HB3 := Lib.hid hb; clear ho hb hg hat))
  · go_ret
    exact ⟨rfl, HB2.out⟩
  have hO1 := HO1.out
  rw [List.nil_append] at hO1
  obtain ⟨Ao, co, rfl, hco, hCo⟩ := Kd.R_reads hO1
  have HCO := Lib.hid hCo
  clear hO1 hCo HO1
  have HZ := Lib.hid HB3.out.size
  go_loopw [7, 8] (fun v7 v8 wr => ∃ (u7 : Value) (k : Nat), v7 = u7 ∧ v8 = .int .i64 k ∧ k ≤ l1.length ∧ Hid (Kd.S k43 43 wr w3.heap.size (fun _ => True) u7 (l1.take k)) ∧ Hid (Below w3.heap.size w3 wr)) (fun _ v8 _ => l1.length - (intOf v8).toNat)
  case atStart => exact ⟨_, 0, rfl, rfl, Nat.zero_le _, Lib.hid (by rw [List.take_zero]; exact Kd.S_nil _ _ _ _ _), Lib.hid (Below.refl _ _)⟩
  case round =>
    obtain ⟨u7, k, rfl, rfl, hk, HS7, HW7⟩ := hrel
    by_cases hlt : k < l1.length
    · obtain ⟨ad, A4, c4, A11, c11, A12, c12, hA, x0, x1, x2, x3, x4, x5, x6, x7, x8, x9, x10, x11, x12, l4, r4, l11, r11, l12, r12⟩ := at_T43 HR1.out (k : Int) (by omega) (by omega)
      cases hA
      have hbw := HB3.out.trans (HW7.out.mono HB3.out.size)
      have y0 := pw_cell_below hbw x0
      have y1 := pw_cell_below hbw x1
      have y2 := pw_cell_below hbw x2
      have y3 := pw_cell_below hbw x3
      have y4 := pw_cell_below hbw x4
      have y5 := pw_cell_below hbw x5
      have y6 := pw_cell_below hbw x6
      have y7 := pw_cell_below hbw x7
      have y8 := pw_cell_below hbw x8
      have y9 := pw_cell_below hbw x9
      have y10 := pw_cell_below hbw x10
      have y11 := pw_cell_below hbw x11
      have y12 := pw_cell_below hbw x12
      clear x0 x1 x2 x3 x4 x5 x6 x7 x8 x9 x10 x11 x12
      have hx : okS (rd_T43 l1 (k : Int)) := HSx.out _ (rd43_mem hlt)
      obtain ⟨x, ex⟩ : ∃ x, x = rd_T43 l1 (k : Int) := ⟨_, rfl⟩
      rw [← ex] at y0 y1 y2 y3 y4 y5 y6 y7 y8 y9 y10 y11 y12 l4 r4 l11 r11 l12 r12 hx
      rw [Int.toNat_natCast] at y0 y1 y2 y3 y4 y5 y6 y7 y8 y9 y10 y11 y12
      have hlk : (k : Int) < (l1.length : Int) := by omega
      have HCL := Lib.hid (clone_run x hx wr A4 c4 A11 c11 A12 c12 (Kd.C_below r4 hbw) l4 (Kd.C_below r11 hbw) l11 (Kd.C_below r12 hbw) l12 w3.heap.size HW7.out.size u7 _ HS7.out)
      have HEX := Lib.hid ex
      have HXX := Lib.hid hx
      clear r4 r11 r12 hx ex hbw
      go_wp2_with fail
      refine HCL.out.mono ?_
      rintro e w4 ⟨v4, v11, v12, okp, rfl, hM, hap, hS4, hb⟩
      have HM := Lib.hid hM
      have HAP := Lib.hid hap
      have HS4 := Lib.hid hS4
      have HB4 := Lib.hid (HW7.out.trans (hb.mono HW7.out.size))
      clear hM hap hS4 hb y0 y1 y2 y3 y4 y5 y6 y7 y8 y9 y10 y11 y12
      have hl7 : ((l1.take k).length + 1) * 168 ≤ 140737488355328 := by rw [List.length_take]; omega
      go_wp2_with (first
        | (at_builtin; refine Kd.S_append k43 (w0 := w3) w3.heap.size rfl (.tmp 29) (.tmp 35) 34 43 (.agg #[(.int .u64 0), (.int .u64 0), (.int .u64 0), (.int .u64 0), (.slice none 0 0), (.string ⟨#[]⟩), (.string ⟨#[]⟩), (.int .i64 0), (.int .i64 0), (.int .i64 0), (.int .i64 0), (.slice none 0 0), (.slice none 0 0)]) 168 rfl Tryd.underlying34 info43 rfl (by decide) (by omega) u7 (l1.take k) x [.int .u64 x.f0.f0, .int .u64 x.f0.f1, .int .u64 x.f1, .int .u64 x.f2, v4, .string x.f4, .string x.f5, .int .i64 x.f6, .int .i64 x.f7, .int .i64 x.f8, .int .i64 x.f9, v11, v12] (fun _ => True) okp rfl rfl HM.out (fun q hq => ⟨trivial, HAP.out q hq⟩) (fun _ _ => trivial) HS4.out HB4.out HB4.out.size hl7 ?_; intro v5 w5 ho hb hg hat; have HO5 := Lib.hid ho; have HB5 := Lib.hid hb; clear ho hb hg hat))
      have etk : l1.take (k + 1) = l1.take k ++ [x] := by
        rw [List.take_succ_eq_append_getElem hlt, HEX.out]
        simp [rd_T43, List.getD, hlt]
      refine ⟨⟨v5, k + 1, rfl, by go_num, by omega, Lib.hid (by rw [etk]; exact HO5.out), HB5⟩, ?_⟩
      simp [intOf]; omega
    · obtain rfl : k = l1.length := by omega
      have hS7 := HS7.out
      rw [List.take_length] at hS7
      have HS7' := Lib.hid hS7
      clear hS7 HS7
      go_wp2_with (first
        | (at_builtin; refine Kd.S_append k43 (w0 := w3) w3.heap.size rfl (.tmp 37) (.tmp 39) 34 43 (.agg #[(.int .u64 0), (.int .u64 0), (.int .u64 0), (.int .u64 0), (.slice none 0 0), (.string ⟨#[]⟩), (.string ⟨#[]⟩), (.int .i64 0), (.int .i64 0), (.int .i64 0), (.int .i64 0), (.slice none 0 0), (.slice none 0 0)]) 168 rfl Tryd.underlying34 info43 rfl (by decide) (by omega) u7 l1 spareS [.int .u64 0, .int .u64 0, .int .u64 0, .int .u64 0, .slice none 0 0, .string ⟨#[115, 112, 97, 114, 101]⟩, .string ⟨#[]⟩, .int .i64 0, .int .i64 0, .int .i64 0, .int .i64 0, .slice none 0 0, .slice none 0 0] (fun _ => True) (fun _ => False) rfl rfl (k43_mkM _ _ _ spareS (Kd.R_nil _ _ _ _ _) (Kd.R_nil _ _ _ _ _) (Kd.R_nil _ _ _ _ _)) (fun q hq => hq.elim) (fun _ _ => trivial) (Kd.S_mono HS7'.out (fun _ _ => ⟨trivial, fun h => h.elim⟩)) HW7.out HW7.out.size (by omega) ?_; intro v5 w5 ho hb hg hat; have HO5 := Lib.hid ho; have HB5 := Lib.hid hb; clear ho hb hg hat; obtain ⟨g, cap, he, hbg, hgl, _⟩ := Kd.S_form HO5.out (by simp); have he3 : v5 = .slice (some ⟨g, 0, none⟩) (l1.length + 1) cap := (he.trans (by simp)); clear he; subst he3; have hcp : l1.length + 1 ≤ cap := (Kd.S_reads' HO5.out).2.1; have hcp2 : (l1.length : Int) ≤ (cap : Int) := (by omega)))
      have htk := (Kd.S_reads' (Kd.S_take HO5.out (m := l1.length) (by simp))).2.2
      rw [List.take_left] at htk
      have HTK := Lib.hid htk
      have HBY := Lib.hid (Kd.S_reads' HO5.out).2.2
      have hB5 := HB3.out.trans (HB5.out.mono HB3.out.size)
      have HW5 := Lib.hid hB5
      have HCO5 := Lib.hid (Kd.C_below HCO.out HB5.out)
      have hcp3 : l1.length ≤ cap := by omega
      clear htk hB5 HS7' HW7
      refine (HD1.out w5 Ao (some ⟨g, 0, none⟩) co cap HW5.out HCO5.out hco HTK.out hcp3).mono ?_
      rintro e w6 ⟨rfl, hb⟩
      have HB6 := Lib.hid ((HW5.out.trans (hb.mono HW5.out.size)).alloc (HW5.out.trans (hb.mono HW5.out.size)).size (.cells #[.bool vk, .int .i64 vp, .int .u64 0, .int .u64 vw] 47))
      have HB65 := Lib.hid (hb.alloc hb.size (.cells #[.bool vk, .int .i64 vp, .int .u64 0, .int .u64 vw] 47))
      have HV6 := Lib.hid (blk_new w6 (.cells #[.bool vk, .int .i64 vp, .int .u64 0, .int .u64 vw] 47))
      clear hb
      go_wp2_with fail
      refine (HD2.out _ A0 A1 c0 c1 HB6.out (Kd.C_below HR0.out HB6.out) hc0 (Kd.C_below HR1.out HB6.out) hc1).mono ?_
      rintro e w7 ⟨rfl, hb⟩
      have HB7 := Lib.hid ((HB6.out.trans (hb.mono HB6.out.size)).alloc (HB6.out.trans (hb.mono HB6.out.size)).size (.cells #[.bool vk, .int .i64 vp, .int .u64 0, .int .u64 vw] 47))
      have HB75 := Lib.hid ((HB65.out.trans (hb.mono HB65.out.size)).alloc (HB65.out.trans (hb.mono HB65.out.size)).size (.cells #[.bool vk, .int .i64 vp, .int .u64 0, .int .u64 vw] 47))
      have HV7 := Lib.hid (blk_alloc (blk_below HV6.out hb) (.cells #[.bool vk, .int .i64 vp, .int .u64 0, .int .u64 vw] 47))
      have HU7 := Lib.hid (blk_new w7 (.cells #[.bool vk, .int .i64 vp, .int .u64 0, .int .u64 vw] 47))
      clear hb
      go_wp2_with fail
      generalize hW8 : w7.alloc (.cells #[.bool vk, .int .i64 vp, .int .u64 0, .int .u64 vw] 47) = w8 at *
      clear hW8
      go_loopw [13] (fun v13 wr => ∃ k : Nat, v13 = .int .i64 k ∧ k ≤ l0.length ∧ Hid (Below w8.heap.size w8 wr)) (fun v13 _ => l0.length - (intOf v13).toNat)
      case atStart => exact ⟨0, rfl, Nat.zero_le _, Lib.hid (Below.refl _ _)⟩
      case round =>
        obtain ⟨k, rfl, hk, HW⟩ := hrel
        by_cases hlt : k < l0.length
        · have hb3 : Below w5.heap.size w5 wr := HB75.out.trans (HW.out.mono HB75.out.size)
          have hbw : Below w.heap.size w wr := HB7.out.trans (HW.out.mono HB7.out.size)
          obtain ⟨ad, hA, y0, _⟩ := at_T30 HCO5.out 0 (by omega) (by omega)
          obtain ⟨ab, ao, sp⟩ := ad
          obtain rfl : sp = none := Go.Proofs.cell_spot y0
          obtain ⟨ad, hA', o0, o1, o2, o3⟩ := at_T30 HCO5.out (k : Int) (by omega) (by omega)
          rw [hA] at hA'
          cases hA'
          subst hA
          obtain ⟨ad, hE, y1, _⟩ := at_T30 HR0.out 0 (by omega) (by omega)
          obtain ⟨eb, eo, sp⟩ := ad
          obtain rfl : sp = none := Go.Proofs.cell_spot y1
          obtain ⟨ad, hE', x0, x1, x2, x3⟩ := at_T30 HR0.out (k : Int) (by omega) (by omega)
          rw [hE] at hE'
          cases hE'
          subst hE
          rw [Int.toNat_natCast, Addr.add_lit] at x0 x1 x2 x3 o0 o1 o2 o3
          simp only [] at x0 x1 x2 x3 o0 o1 o2 o3
          generalize rd_T30 l0 (k : Int) = p at *
          obtain ⟨kd, na, nm, pt⟩ := p
          have P0 := fun x : Wx wr => x.cell (pw_cell_below hb3 o0)
          have P1 := fun x : Wx wr => x.cell (pw_cell_below hb3 o1)
          have P2 := fun x : Wx wr => x.cell (pw_cell_below hb3 o2)
          have P3 := fun x : Wx wr => x.cell (pw_cell_below hb3 o3)
          have Q0 := fun x : Wx wr => x.cell (pw_cell_below hbw x0)
          have Q1 := fun x : Wx wr => x.cell (pw_cell_below hbw x1)
          have Q2 := fun x : Wx wr => x.cell (pw_cell_below hbw x2)
          have Q3 := fun x : Wx wr => x.cell (pw_cell_below hbw x3)
          have hlk : (k : Int) < (l0.length : Int) := by omega
          clear o0 o1 o2 o3 x0 x1 x2 x3 y0 y1 hb3 hbw
          dsimp only at *
          go_wp2_with fail
          refine wp_region_ext (by kernel_rfl) (by kernel_rfl) ?_
          repeat (go_big_quiet_step (fail))
          refine wpQuiet_nil ?_
          intro _ hw'
          obtain ⟨xx, rfl⟩ := hw'
          clear P0 P1 P2 P3 Q0 Q1 Q2 Q3
          go_wp2_with fail
          go_roundw
          case rel => exact ⟨k + 1, by go_num, by omega, Lib.hid (HW.out.trans (xx.h.mono HW.out.size))⟩
          case measure => simp [intOf]; omega
        · obtain rfl : k = l0.length := by omega
          go_wp2_with fail
          go_loopw [14] (fun v14 wq => ∃ k : Nat, v14 = .int .i64 k ∧ k ≤ l1.length ∧ Hid (Below w8.heap.size w8 wq)) (fun v14 _ => l1.length - (intOf v14).toNat)
          case atStart => exact ⟨0, rfl, Nat.zero_le _, HW⟩
          case round =>
            clear hlt hk HW
            obtain ⟨k, rfl, hk, HW⟩ := hrel
            have hb3 : Below w5.heap.size w5 wr := HB75.out.trans (HW.out.mono HB75.out.size)
            have hbw : Below w.heap.size w wr := HB7.out.trans (HW.out.mono HB7.out.size)
            by_cases hlt : k < l1.length
            · obtain ⟨ad, _, _, _, _, _, _, hA, y0, _⟩ := at_T43 HTK.out 0 (by omega) (by omega)
              cases hA
              obtain ⟨ad, B4, d4, B11, d11, B12, d12, hA', o0, o1, o2, o3, o4, o5, o6, o7, o8, o9, o10, o11, o12, m4, s4, m11, s11, m12, s12⟩ := at_T43 HTK.out (k : Int) (by omega) (by omega)
              cases hA'
              obtain ⟨ad, _, _, _, _, _, _, hE, y1, _⟩ := at_T43 HR1.out 0 (by omega) (by omega)
              obtain ⟨eb, eo, sp⟩ := ad
              obtain rfl : sp = none := Go.Proofs.cell_spot y1
              obtain ⟨ad, A4, c4, A11, c11, A12, c12, hE', x0, x1, x2, x3, x4, x5, x6, x7, x8, x9, x10, x11, x12, l4, r4, l11, r11, l12, r12⟩ := at_T43 HR1.out (k : Int) (by omega) (by omega)
              rw [hE] at hE'
              cases hE'
              subst hE
              rw [Int.toNat_natCast, Addr.add_lit] at x0 o0 x1 o1 x2 o2 x3 o3 x4 o4 x5 o5 x6 o6 x7 o7 x8 o8 x9 o9 x10 o10 x11 o11 x12 o12
              simp only [] at x0 o0 x1 o1 x2 o2 x3 o3 x4 o4 x5 o5 x6 o6 x7 o7 x8 o8 x9 o9 x10 o10 x11 o11 x12 o12
              rw [Nat.zero_add] at o0 o1 o2 o3 o4 o5 o6 o7 o8 o9 o10 o11 o12
              have hco := HD3.out _ (rd43_mem hlt)
              generalize rd_T43 l1 (k : Int) = x at *
              have P0 := fun z : Wx wr => z.cell (pw_cell_below hb3 o0)
              have Q0 := fun z : Wx wr => z.cell (pw_cell_below hbw x0)
              have P1 := fun z : Wx wr => z.cell (pw_cell_below hb3 o1)
              have Q1 := fun z : Wx wr => z.cell (pw_cell_below hbw x1)
              have P2 := fun z : Wx wr => z.cell (pw_cell_below hb3 o2)
              have Q2 := fun z : Wx wr => z.cell (pw_cell_below hbw x2)
              have P3 := fun z : Wx wr => z.cell (pw_cell_below hb3 o3)
              have Q3 := fun z : Wx wr => z.cell (pw_cell_below hbw x3)
              have P4 := fun z : Wx wr => z.cell (pw_cell_below hb3 o4)
              have Q4 := fun z : Wx wr => z.cell (pw_cell_below hbw x4)
              have P5 := fun z : Wx wr => z.cell (pw_cell_below hb3 o5)
              have Q5 := fun z : Wx wr => z.cell (pw_cell_below hbw x5)
              have P6 := fun z : Wx wr => z.cell (pw_cell_below hb3 o6)
              have Q6 := fun z : Wx wr => z.cell (pw_cell_below hbw x6)
              have P7 := fun z : Wx wr => z.cell (pw_cell_below hb3 o7)
              have Q7 := fun z : Wx wr => z.cell (pw_cell_below hbw x7)
              have P8 := fun z : Wx wr => z.cell (pw_cell_below hb3 o8)
              have Q8 := fun z : Wx wr => z.cell (pw_cell_below hbw x8)
              have P9 := fun z : Wx wr => z.cell (pw_cell_below hb3 o9)
              have Q9 := fun z : Wx wr => z.cell (pw_cell_below hbw x9)
              have P10 := fun z : Wx wr => z.cell (pw_cell_below hb3 o10)
              have Q10 := fun z : Wx wr => z.cell (pw_cell_below hbw x10)
              have P11 := fun z : Wx wr => z.cell (pw_cell_below hb3 o11)
              have Q11 := fun z : Wx wr => z.cell (pw_cell_below hbw x11)
              have P12 := fun z : Wx wr => z.cell (pw_cell_below hb3 o12)
              have Q12 := fun z : Wx wr => z.cell (pw_cell_below hbw x12)
              have C1 : Hid (∀ z : Wx wr, Calls Tryd.prog 20 #[.agg #[.int .u64 x.f0.f0, .int .u64 x.f0.f1, .int .u64 x.f1, .int .u64 x.f2, .slice B4 x.f3.length d4, .string x.f4, .string x.f5, .int .i64 x.f6, .int .i64 x.f7, .int .i64 x.f8, .int .i64 x.f9, .slice B11 x.f10.length d11, .slice B12 x.f11.length d12],
    .agg #[.int .u64 x.f0.f0, .int .u64 x.f0.f1, .int .u64 x.f1, .int .u64 x.f2, .slice A4 x.f3.length c4, .string x.f4, .string x.f5, .int .i64 x.f6, .int .i64 x.f7, .int .i64 x.f8, .int .i64 x.f9, .slice A11 x.f10.length c11, .slice A12 x.f11.length c12]] z.W fun e w' => e = .returned (.int .i64 0) ∧ Below z.W.heap.size z.W w') := fun z =>
                hco z.W B4 d4 B11 d11 B12 d12 A4 c4 A11 c11 A12 c12 (Kd.C_below s4 (hb3.trans (z.h.mono hb3.size))) m4 (Kd.C_below s11 (hb3.trans (z.h.mono hb3.size))) m11 (Kd.C_below s12 (hb3.trans (z.h.mono hb3.size))) m12
                  (Kd.C_below r4 (hbw.trans (z.h.mono hbw.size))) l4 (Kd.C_below r11 (hbw.trans (z.h.mono hbw.size))) l11 (Kd.C_below r12 (hbw.trans (z.h.mono hbw.size))) l12
              have hlk : (k : Int) < (l1.length : Int) := by omega
              have hlk2 : (k : Int) < (l1.length : Int) + 1 := by omega
              clear y0 y1 hb3 hbw hco s4 s11 s12 r4 r11 r12 x0 o0 x1 o1 x2 o2 x3 o3 x4 o4 x5 o5 x6 o6 x7 o7 x8 o8 x9 o9 x10 o10 x11 o11 x12 o12
              go_wp2_with fail
              refine wp_region_ext (by kernel_rfl) (by kernel_rfl) ?_
              repeat (go_big_quiet_step (first | (go_at_call 20; with_reducible exact Calls.ext_of (C1.out _))))
              refine wpQuiet_nil ?_
              intro _ hw'
              obtain ⟨xx, rfl⟩ := hw'
              clear P0 Q0 P1 Q1 P2 Q2 P3 Q3 P4 Q4 P5 Q5 P6 Q6 P7 Q7 P8 Q8 P9 Q9 P10 Q10 P11 Q11 P12 Q12
              go_wp2_with fail
              go_roundw
              case rel => exact ⟨k + 1, by go_num, by omega, Lib.hid (HW.out.trans (xx.h.mono HW.out.size))⟩
              case measure => simp [intOf]; omega
            · obtain rfl : k = l1.length := by omega
              obtain ⟨ad, _, _, _, _, _, _, hA, _, _, _, _, _, s5, _⟩ := at_T43 HBY.out (l1.length : Int) (by omega) (by simp; omega)
              cases hA
              have esp : rd_T43 (l1 ++ [spareS]) (l1.length : Int) = spareS := by simp [rd_T43, List.getD]
              rw [esp] at s5
              rw [Int.toNat_natCast, Addr.add_lit, Nat.zero_add] at s5
              simp only [] at s5
              have S5 : wr.cell? ⟨g, l1.length * 13 + 5, none⟩ = some (.string ⟨#[115, 112, 97, 114, 101]⟩) := pw_cell_below hb3 s5
              have hV := blk_below HV7.out HW.out
              have hU := blk_below HU7.out HW.out
              have v0 := (cell_of_row _ _ 0 _ _ _ hV).trans rfl
              have v1 := (cell_of_row _ _ 1 _ _ _ hV).trans rfl
              have v2 := (cell_of_row _ _ 2 _ _ _ hV).trans rfl
              have v3 := (cell_of_row _ _ 3 _ _ _ hV).trans rfl
              have u0 := (cell_of_row _ _ 0 _ _ _ hU).trans rfl
              have u1 := (cell_of_row _ _ 1 _ _ _ hU).trans rfl
              have u2 := (cell_of_row _ _ 2 _ _ _ hU).trans rfl
              have u3 := (cell_of_row _ _ 3 _ _ _ hU).trans rfl
              have hlk2 : (l1.length : Int) < (l1.length : Int) + 1 := by omega
              have HBW := Lib.hid hbw
              clear s5 esp hV hU hb3 hbw
              go_wp2_with fail
              go_ret
              exact ⟨rfl, HBW.out⟩
end Go.Proofs.YtdlnfmakfnggpaaDoor.Pr
