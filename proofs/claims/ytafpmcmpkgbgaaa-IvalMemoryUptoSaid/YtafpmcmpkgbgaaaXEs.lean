/- slices.SortFunc over the ends, as package ival calls it. -/
import Derived.Test.YtafpmcmpkgbgaaaMa
import Derived.Shelf.SlSortCmp.WholeK
import Derived.Shelf.SlSortCmp.NoneTotal
import Derived.Shelf.SlicesQ.Reverse
import Derived.Shelf.SlicesG.Cmp
import Derived.Shelf.Lay
import Derived.Ground.SlsfProg
import Derived.Ground.SlgcProg
import Derived.Lib.Hide
import Derived.Outline
import Derived.IntWalk
namespace Go.Proofs.Ytafpmcmpkgbgaaa.Pr
open Go.RowKit Go.Proofs.YtafpmcmpkgbgaaaW.PrintWords Go.Proofs.YtafpmcmpkgbgaaaW.PrintLast Go.Proofs.YtafpmcmpkgbgaaaW.PrintMore
open Go.Shelf Go.Lib Go.Sort
set_option linter.unusedVariables false
set_option linter.unusedSimpArgs false
def sortL_ren : Go.Shelf.Ren := ⟨fun | 6 => 47 | 15 => 55 | 14 => 54 | 28 => 65 | 29 => 66 | 20 => 57 | 21 => 58 | 22 => 59 | 23 => 60 | 24 => 61 | 25 => 62 | 26 => 63 | 27 => 64 | 46 => 67 | 47 => 68 | 48 => 69 | 49 => 70 | 50 => 71 | 57 => 72 | n => n, fun | 22 => 52 | 24 => 56 | 25 => 58 | 3 => 3 | 39 => 69 | 0 => 0 | 53 => 81 | 55 => 26 | 4 => 4 | 46 => 74 | 45 => 73 | 50 => 78 | 5 => 5 | 9 => 9 | 66 => 83 | 70 => 87 | 76 => 89 | 77 => 90 | n => n, fun | n => n⟩
theorem sortL : Go.Proofs.SlLaysF0.n6 Try.prog sortL_ren := {
  mixed := by kernel_rfl
  f6 := ⟨Try.f47.name, by decide, Try.func47.trans (congrArg some (by kernel_rfl))⟩
  f14 := ⟨Try.f54.name, by decide, Try.func54.trans (congrArg some (by kernel_rfl))⟩
  f15 := Try.func55.trans (congrArg some (by kernel_rfl))
  f20 := ⟨Try.f57.name, by decide, Try.func57.trans (congrArg some (by kernel_rfl))⟩
  f21 := ⟨Try.f58.name, by decide, Try.func58.trans (congrArg some (by kernel_rfl))⟩
  f22 := ⟨Try.f59.name, by decide, Try.func59.trans (congrArg some (by kernel_rfl))⟩
  f23 := ⟨Try.f60.name, by decide, Try.func60.trans (congrArg some (by kernel_rfl))⟩
  f24 := ⟨Try.f61.name, by decide, Try.func61.trans (congrArg some (by kernel_rfl))⟩
  f25 := ⟨Try.f62.name, by decide, Try.func62.trans (congrArg some (by kernel_rfl))⟩
  f26 := ⟨Try.f63.name, by decide, Try.func63.trans (congrArg some (by kernel_rfl))⟩
  f27 := ⟨Try.f64.name, by decide, Try.func64.trans (congrArg some (by kernel_rfl))⟩
  f28 := Try.func65.trans (congrArg some (by kernel_rfl))
  f29 := Try.func66.trans (congrArg some (by kernel_rfl))
  f46 := ⟨Try.f67.name, by decide, Try.func67.trans (congrArg some (by kernel_rfl))⟩
  f47 := Try.func68.trans (congrArg some (by kernel_rfl))
  f48 := Try.func69.trans (congrArg some (by kernel_rfl))
  f49 := ⟨Try.f70.name, by decide, Try.func70.trans (congrArg some (by kernel_rfl))⟩
  f50 := ⟨Try.f71.name, by decide, Try.func71.trans (congrArg some (by kernel_rfl))⟩
  f57 := ⟨Try.f72.name, by decide, Try.func72.trans (congrArg some (by kernel_rfl))⟩
  t0 := Try.underlying0
  a0 := Try.isAgg0
  z0 := Try.sizeOf0
  v0 := Try.zeroValue0
  t3 := Try.underlying3
  a3 := Try.isAgg3
  z3 := Try.sizeOf3
  v3 := Try.zeroValue3
  t4 := Try.underlying4
  a4 := Try.isAgg4
  z4 := Try.sizeOf4
  v4 := Try.zeroValue4
  t5 := Try.underlying5
  a5 := Try.isAgg5
  z5 := Try.sizeOf5
  v5 := Try.zeroValue5
  t9 := Try.underlying9
  a9 := Try.isAgg9
  z9 := Try.sizeOf9
  v9 := Try.zeroValue9
  t22 := Try.underlying52
  a22 := Try.isAgg52
  z22 := Try.sizeOf52
  v22 := Try.zeroValue52
  t25 := Try.underlying58
  a25 := Try.isAgg58
  z25 := Try.sizeOf58
  v25 := Try.zeroValue58
  t39 := Try.underlying69
  a39 := Try.isAgg69
  z39 := Try.sizeOf69
  v39 := Try.zeroValue69
  t45 := Try.underlying73
  a45 := Try.isAgg73
  z45 := Try.sizeOf73
  v45 := Try.zeroValue73
  t46 := Try.underlying74
  a46 := Try.isAgg74
  z46 := Try.sizeOf74
  v46 := Try.zeroValue74
  t50 := Try.underlying78
  a50 := Try.isAgg78
  z50 := Try.sizeOf78
  v50 := Try.zeroValue78
  t53 := Try.underlying81
  a53 := Try.isAgg81
  z53 := Try.sizeOf81
  v53 := Try.zeroValue81
  t55 := Try.underlying26
  a55 := Try.isAgg26
  z55 := Try.sizeOf26
  v55 := Try.zeroValue26
  t66 := Try.underlying83
  a66 := Try.isAgg83
  z66 := Try.sizeOf83
  v66 := Try.zeroValue83
  t70 := Try.underlying87
  a70 := Try.isAgg87
  z70 := Try.sizeOf87
  v70 := Try.zeroValue87
  t76 := Try.underlying89
  a76 := Try.isAgg89
  z76 := Try.sizeOf89
  v76 := Try.zeroValue89
  t77 := Try.underlying90
  a77 := Try.isAgg90
  z77 := Try.sizeOf90
  v77 := Try.zeroValue90 }
def cmpL_ren : Go.Shelf.Ren := ⟨fun | 5 => 49 | 7 => 56 | n => n, fun | 22 => 2 | 3 => 3 | 4 => 4 | n => n, fun | n => n⟩
theorem cmpL : Go.Proofs.SlLaysC2.n5 Try.prog cmpL_ren := {
  mixed := by kernel_rfl
  f5 := ⟨Try.f49.name, by decide, Try.func49.trans (congrArg some (by kernel_rfl))⟩
  f7 := ⟨Try.f56.name, by decide, Try.func56.trans (congrArg some (by kernel_rfl))⟩
  t3 := Try.underlying3
  a3 := Try.isAgg3
  z3 := Try.sizeOf3
  v3 := Try.zeroValue3
  t4 := Try.underlying4
  a4 := Try.isAgg4
  z4 := Try.sizeOf4
  v4 := Try.zeroValue4
  t22 := Try.underlying2
  a22 := Try.isAgg2
  z22 := Try.sizeOf2
  v22 := Try.zeroValue2 }
instance : Inhabited S56 := ⟨z56⟩
def encE (x : S56) : List Value := [.int .i64 x.f0, .int .i64 x.f1]
def cfE (x y : S56) : Int := Lib.compareInt x.f0 y.f0

set_option maxHeartbeats 1000000 in
theorem closure48 (x y : S56) (W : World) : Calls Try.prog 48 #[.agg #[.int .i64 x.f0, .int .i64 x.f1], .agg #[.int .i64 y.f0, .int .i64 y.f1]] W fun e w' => e = .returned (.int .i64 (cfE x y)) ∧ ∃ q os', w' = grow (W.drewN q) os' := by
  have hcon := fun W' => AnyG.cmp_Compare_int cmpL x.f0 y.f0 W'
  change ∀ W', Calls Try.prog 49 _ _ _ at hcon
  unfold cfE
  generalize Lib.compareInt x.f0 y.f0 = r at hcon ⊢
  go_enter Try.func48, Try.ntmps48
  go_wp2_with (go_at_call 49; refine (hcon _).mono ?_; rintro e w' ⟨rfl, rfl⟩)
  go_ret
  exact ⟨rfl, 0, _, by rw [alloc_eq_grow, alloc_eq_grow, grow_grow]; rfl⟩
theorem cmpLays48 (blk off size : Nat) (w : World) : CmpLays Try.prog 48 #[] encE 2 cfE blk off size w :=
  fun _ _ _ _ x y => closure48 x y _
theorem ltE (x y : S56) : ltOf cfE x y = decide (x.f0 < y.f0) := by
  unfold ltOf cfE Lib.compareInt
  by_cases h1 : x.f0 < y.f0
  · simp [h1]
  · by_cases h2 : y.f0 < x.f0 <;> simp [h1, h2]
theorem swoE : SWO (ltOf cfE) where
  irrefl x := by rw [ltE]; simp
  trans x y z h1 h2 := by rw [ltE] at *; simp at *; omega
  ntrans x y z h1 h2 := by rw [ltE] at *; simp at *; omega

theorem rising_of {d d' : Array S56} (hp : PermIn 0 d.size d d') (hs : SortedIn (ltOf cfE) 0 d.size d') : Rising d'.toList ∧ d'.toList.Perm d.toList := by
  obtain ⟨h1, _, h3⟩ := hp
  have e1 : d'.extract 0 d.size = d' := by rw [← h1]; simp
  have e2 : d.extract 0 d.size = d := by simp
  rw [e1, e2] at h3
  refine ⟨?_, h3⟩
  unfold Rising
  rw [List.pairwise_iff_getElem]
  intro i j hi hj hij
  have := hs i j (Nat.zero_le _) hij (by simpa [h1] using hj)
  rw [ltE] at this
  simp only [Array.length_toList] at hi hj
  rw [getElem!_pos d' i hi, getElem!_pos d' j hj] at this
  simp only [decide_eq_false_iff_not] at this
  simp only [Array.getElem_toList]
  omega
theorem below_sortWorldK {w0 w : World} {g n : Nat} {d' : Array S56} {os : Array Obj} (hB : RowKit.Below w0.heap.size w0 w) (hg : w0.heap.size ≤ g) : RowKit.Below w0.heap.size w0 (sortWorldK encE 2 w g 0 n d' os) := by
  refine ⟨hB.os, hB.tape, hB.output, ?_, ?_⟩
  · have := hB.size
    show w0.heap.size ≤ ((w.heap.modify g _) ++ os).size
    rw [Array.size_append, Array.size_modify]; omega
  · intro k hk
    show ((w.heap.modify g _) ++ os)[k]? = _
    have := hB.size
    rw [Array.getElem?_append_left (by rw [Array.size_modify]; omega), Array.getElem?_modify, if_neg (by omega)]
    exact hB.block k hk
theorem size_sortWorldK {w : World} {g n : Nat} {d' : Array S56} {os : Array Obj} : w.heap.size ≤ (sortWorldK encE 2 w g 0 n d' os).heap.size := by
  show _ ≤ ((w.heap.modify g _) ++ os).size
  rw [Array.size_append, Array.size_modify]; omega
theorem reads_holds {w : World} {g : Nat} {d : Array S56} (h : HoldsK encE 2 w g 0 d) (hsz : d.size ≤ 9223372036854775807) : Kd.C k56 w (some ⟨g, 0, none⟩) d.size d.toList := by
  refine ⟨by simp, hsz, fun _ => ⟨⟨g, 0, none⟩, rfl, fun j p hp => ⟨encE p, rfl, k56_mk w p, fun i u hu => ?_⟩⟩⟩
  obtain ⟨hj, rfl⟩ := List.getElem?_eq_some_iff.1 hp
  simp only [Array.length_toList] at hj
  have := HoldsK.cells h (fun _ => rfl) hj i u (by rw [getElem!_pos d j hj]; simpa using hu)
  rw [Addr.add_lit] at this ⊢
  simpa [k56, Kd.iso, Kd.pair, Kd.int, Kd.scalar] using this
theorem holds_reads {w : World} {base : Nat} {g cap : Nat} {xs : List S56} (h : Kd.R k56 56 w base (fun _ => True) (.slice (some ⟨g, 0, none⟩) xs.length cap) xs) : HoldsK encE 2 w g 0 xs.toArray := by
  intro j hj
  rw [size_flatK] at hj
  simp only [List.size_toArray] at hj
  obtain ⟨c, hl, hM, hc, hf⟩ := Kd.R_elem h z56 ((j / 2 : Nat) : Int) (by omega) (by omega)
  obtain rfl := k56_openM hM
  have e2 : k56.sz = 2 := rfl
  rw [e2] at hc hf
  simp only [Int.toNat_natCast] at hc hf
  have hjj : 0 + j = j / 2 * 2 + j % 2 := by omega
  rw [hjj]
  refine ⟨?_, hf _⟩
  rw [get_flatK _ _ _ j (by simpa using hj)]
  have hx : (xs.toArray)[j / 2]! = xs.getD (j / 2) z56 := by
    rw [getElem!_pos xs.toArray (j / 2) (by simp; omega)]
    simp [List.getD, (by omega : j / 2 < xs.length)]
  rw [hx]
  refine hc _ _ ?_
  have : j % 2 = 0 ∨ j % 2 = 1 := by omega
  rcases this with h | h <;> rw [h] <;> rfl
def SortPost (w0 w : World) (v : Value) (xs : List S56) (e : Ending) (w' : World) : Prop :=
  e = .returned (.tuple #[]) ∧ ∃ A c ys, v = .slice A xs.length c ∧ xs.length ≤ c ∧ ys.length = xs.length ∧ ys.Perm xs ∧ Rising ys ∧ RowKit.Below w0.heap.size w0 w' ∧ w.heap.size ≤ w'.heap.size ∧ Kd.C k56 w' A xs.length ys
theorem sort_run (v : Value) (xs : List S56) (w0 w : World) (hB : RowKit.Below w0.heap.size w0 w) (hR : Kd.R k56 56 w w0.heap.size (fun _ => True) v xs) (hlen : xs.length < 4611686018427387904) :
    Calls Try.prog 47 #[v, .func (.func 48) #[] #[]] w fun e w' => SortPost w0 w v xs e w' := by
  by_cases h0 : 0 < xs.length
  · obtain ⟨g, cap, rfl, hg, hgl, _⟩ := Kd.R_form hR h0
    obtain ⟨A, c, hv, hc, _⟩ := Kd.R_reads hR
    have eg : ∀ args w, (callFunc 48 args).run Try.prog w = .ok (.enter 48 args) w := enters_of Try.func48 (by kernel_rfl) rfl
    have hH := holds_reads hR
    have hcon := AnyQ.slices_SortFunc sortL 2 (fun w => by first | exact Try.isAgg56 w | kernel_rfl) (fun w => by first | exact Try.sizeOf56 w | kernel_rfl) encE (fun _ => rfl) (fun x v hv => by simp [encE] at hv; rcases hv with rfl | rfl <;> rfl) cfE swoE 48 #[] g 0 cap xs.toArray w eg (cmpLays48 g 0 _ w) hH hgl (by simpa using hlen)
    change Calls Try.prog 47 _ _ _ at hcon
    rw [List.size_toArray] at hcon
    refine hcon.mono ?_
    rintro e w' ⟨rfl, d', n, os, hp, hs, rfl⟩
    rw [← List.size_toArray] at hp hs
    have hd : d'.size = xs.length := by simpa using hp.1
    obtain ⟨hr, hpm⟩ := rising_of hp hs
    refine ⟨rfl, some ⟨g, 0, none⟩, cap, d'.toList, rfl, ?_, by simpa using hd, by simpa using hpm, hr, below_sortWorldK hB hg, size_sortWorldK, ?_⟩
    · cases hv; exact hc
    · rw [← hd]
      refine reads_holds ?_ (by omega)
      exact holdsK_grow encE 2 _ _ g 0 d' (by show g < (w.heap.modify g _).size; rw [Array.size_modify]; exact hgl) (holdsK_putRowK encE 2 _ g 0 xs.toArray d' (holdsK_ahead encE 2 w n g 0 xs.toArray hH) (by simpa using hd))
  · have hx : xs = [] := List.eq_nil_of_length_eq_zero (by omega)
    subst hx
    obtain ⟨A, c, rfl, hc, hC⟩ := Kd.R_reads hR
    have hcon := AnyF.slices_SortFunc_none sortL A c (.func (.func 48) #[] #[]) w
    change Calls Try.prog 47 _ _ _ at hcon
    refine hcon.mono ?_
    rintro e w' ⟨rfl, rfl⟩
    exact ⟨rfl, A, c, [], rfl, hc, rfl, .nil, .nil, hB, Nat.le_refl _, hC⟩
end Go.Proofs.Ytafpmcmpkgbgaaa.Pr
