import Derived.Test.YthdkgilpnkabmaaGreatDoorTr
import Derived.Shelf.SlSortCmp.WholeK
import Derived.Shelf.SlSortCmp.NoneTotal
import Derived.Shelf.SlicesQ.Reverse
import Derived.Shelf.SlicesG.Cmp
/- slices.SortFunc of spans and of traces, as the store calls it. -/
namespace Go.Proofs.YthdkgilpnkabmaaGreatDoor.Pr
open Go Go.RowKit Go.Proofs.YthdkgilpnkabmaaGreatDoorW.PrintWords Go.Proofs.YthdkgilpnkabmaaGreatDoorW.PrintLast Go.Proofs.YthdkgilpnkabmaaGreatDoorW.PrintMore
open Go.Shelf Go.Sort
open Rm Ps
set_option linter.unusedVariables false
set_option linter.unusedSimpArgs false
def sortLs_ren : Go.Shelf.Ren := ⟨fun | 6 => 72 | 15 => 78 | 14 => 102 | 28 => 112 | 29 => 113 | 20 => 125 | 21 => 126 | 22 => 127 | 23 => 128 | 24 => 129 | 25 => 130 | 26 => 131 | 27 => 132 | 46 => 142 | 47 => 134 | 48 => 135 | 49 => 143 | 50 => 144 | 57 => 148 | n => n, fun | 22 => 22 | 24 => 41 | 25 => 46 | 3 => 3 | 39 => 128 | 0 => 0 | 53 => 157 | 55 => 31 | 4 => 4 | 46 => 151 | 45 => 150 | 50 => 121 | 5 => 5 | 9 => 9 | 66 => 176 | 70 => 180 | 76 => 186 | 77 => 187 | n => n, fun | n => n⟩
theorem sortLs : Go.Proofs.SlLaysF0.n6 Tryz.prog sortLs_ren := {
  mixed := by kernel_rfl
  f6 := ⟨Tryz.f72.name, by decide, Tryz.func72.trans (congrArg some (by kernel_rfl))⟩
  f14 := ⟨Tryz.f102.name, by decide, Tryz.func102.trans (congrArg some (by kernel_rfl))⟩
  f15 := Tryz.func78.trans (congrArg some (by kernel_rfl))
  f20 := ⟨Tryz.f125.name, by decide, Tryz.func125.trans (congrArg some (by kernel_rfl))⟩
  f21 := ⟨Tryz.f126.name, by decide, Tryz.func126.trans (congrArg some (by kernel_rfl))⟩
  f22 := ⟨Tryz.f127.name, by decide, Tryz.func127.trans (congrArg some (by kernel_rfl))⟩
  f23 := ⟨Tryz.f128.name, by decide, Tryz.func128.trans (congrArg some (by kernel_rfl))⟩
  f24 := ⟨Tryz.f129.name, by decide, Tryz.func129.trans (congrArg some (by kernel_rfl))⟩
  f25 := ⟨Tryz.f130.name, by decide, Tryz.func130.trans (congrArg some (by kernel_rfl))⟩
  f26 := ⟨Tryz.f131.name, by decide, Tryz.func131.trans (congrArg some (by kernel_rfl))⟩
  f27 := ⟨Tryz.f132.name, by decide, Tryz.func132.trans (congrArg some (by kernel_rfl))⟩
  f28 := Tryz.func112.trans (congrArg some (by kernel_rfl))
  f29 := Tryz.func113.trans (congrArg some (by kernel_rfl))
  f46 := ⟨Tryz.f142.name, by decide, Tryz.func142.trans (congrArg some (by kernel_rfl))⟩
  f47 := Tryz.func134.trans (congrArg some (by kernel_rfl))
  f48 := Tryz.func135.trans (congrArg some (by kernel_rfl))
  f49 := ⟨Tryz.f143.name, by decide, Tryz.func143.trans (congrArg some (by kernel_rfl))⟩
  f50 := ⟨Tryz.f144.name, by decide, Tryz.func144.trans (congrArg some (by kernel_rfl))⟩
  f57 := ⟨Tryz.f148.name, by decide, Tryz.func148.trans (congrArg some (by kernel_rfl))⟩
  t0 := Tryz.underlying0
  a0 := Tryz.isAgg0
  z0 := Tryz.sizeOf0
  v0 := Tryz.zeroValue0
  t3 := Tryz.underlying3
  a3 := Tryz.isAgg3
  z3 := Tryz.sizeOf3
  v3 := Tryz.zeroValue3
  t4 := Tryz.underlying4
  a4 := Tryz.isAgg4
  z4 := Tryz.sizeOf4
  v4 := Tryz.zeroValue4
  t5 := Tryz.underlying5
  a5 := Tryz.isAgg5
  z5 := Tryz.sizeOf5
  v5 := Tryz.zeroValue5
  t9 := Tryz.underlying9
  a9 := Tryz.isAgg9
  z9 := Tryz.sizeOf9
  v9 := Tryz.zeroValue9
  t22 := Tryz.underlying22
  a22 := Tryz.isAgg22
  z22 := Tryz.sizeOf22
  v22 := Tryz.zeroValue22
  t25 := Tryz.underlying46
  a25 := Tryz.isAgg46
  z25 := Tryz.sizeOf46
  v25 := Tryz.zeroValue46
  t39 := Tryz.underlying128
  a39 := Tryz.isAgg128
  z39 := Tryz.sizeOf128
  v39 := Tryz.zeroValue128
  t45 := Tryz.underlying150
  a45 := Tryz.isAgg150
  z45 := Tryz.sizeOf150
  v45 := Tryz.zeroValue150
  t46 := Tryz.underlying151
  a46 := Tryz.isAgg151
  z46 := Tryz.sizeOf151
  v46 := Tryz.zeroValue151
  t50 := Tryz.underlying121
  a50 := Tryz.isAgg121
  z50 := Tryz.sizeOf121
  v50 := Tryz.zeroValue121
  t53 := Tryz.underlying157
  a53 := Tryz.isAgg157
  z53 := Tryz.sizeOf157
  v53 := Tryz.zeroValue157
  t55 := Tryz.underlying31
  a55 := Tryz.isAgg31
  z55 := Tryz.sizeOf31
  v55 := Tryz.zeroValue31
  t66 := Tryz.underlying176
  a66 := Tryz.isAgg176
  z66 := Tryz.sizeOf176
  v66 := Tryz.zeroValue176
  t70 := Tryz.underlying180
  a70 := Tryz.isAgg180
  z70 := Tryz.sizeOf180
  v70 := Tryz.zeroValue180
  t76 := Tryz.underlying186
  a76 := Tryz.isAgg186
  z76 := Tryz.sizeOf186
  v76 := Tryz.zeroValue186
  t77 := Tryz.underlying187
  a77 := Tryz.isAgg187
  z77 := Tryz.sizeOf187
  v77 := Tryz.zeroValue187 }
def sortLt_ren : Go.Shelf.Ren := ⟨fun | 6 => 52 | 15 => 78 | 14 => 77 | 28 => 112 | 29 => 113 | 20 => 104 | 21 => 105 | 22 => 106 | 23 => 107 | 24 => 108 | 25 => 109 | 26 => 110 | 27 => 111 | 46 => 133 | 47 => 134 | 48 => 135 | 49 => 136 | 50 => 137 | 57 => 145 | n => n, fun | 22 => 69 | 24 => 33 | 25 => 101 | 3 => 3 | 39 => 128 | 0 => 0 | 53 => 157 | 55 => 31 | 4 => 4 | 46 => 151 | 45 => 150 | 50 => 121 | 5 => 5 | 9 => 9 | 66 => 176 | 70 => 180 | 76 => 186 | 77 => 187 | n => n, fun | n => n⟩
theorem sortLt : Go.Proofs.SlLaysF0.n6 Tryz.prog sortLt_ren := {
  mixed := by kernel_rfl
  f6 := ⟨Tryz.f52.name, by decide, Tryz.func52.trans (congrArg some (by kernel_rfl))⟩
  f14 := ⟨Tryz.f77.name, by decide, Tryz.func77.trans (congrArg some (by kernel_rfl))⟩
  f15 := Tryz.func78.trans (congrArg some (by kernel_rfl))
  f20 := ⟨Tryz.f104.name, by decide, Tryz.func104.trans (congrArg some (by kernel_rfl))⟩
  f21 := ⟨Tryz.f105.name, by decide, Tryz.func105.trans (congrArg some (by kernel_rfl))⟩
  f22 := ⟨Tryz.f106.name, by decide, Tryz.func106.trans (congrArg some (by kernel_rfl))⟩
  f23 := ⟨Tryz.f107.name, by decide, Tryz.func107.trans (congrArg some (by kernel_rfl))⟩
  f24 := ⟨Tryz.f108.name, by decide, Tryz.func108.trans (congrArg some (by kernel_rfl))⟩
  f25 := ⟨Tryz.f109.name, by decide, Tryz.func109.trans (congrArg some (by kernel_rfl))⟩
  f26 := ⟨Tryz.f110.name, by decide, Tryz.func110.trans (congrArg some (by kernel_rfl))⟩
  f27 := ⟨Tryz.f111.name, by decide, Tryz.func111.trans (congrArg some (by kernel_rfl))⟩
  f28 := Tryz.func112.trans (congrArg some (by kernel_rfl))
  f29 := Tryz.func113.trans (congrArg some (by kernel_rfl))
  f46 := ⟨Tryz.f133.name, by decide, Tryz.func133.trans (congrArg some (by kernel_rfl))⟩
  f47 := Tryz.func134.trans (congrArg some (by kernel_rfl))
  f48 := Tryz.func135.trans (congrArg some (by kernel_rfl))
  f49 := ⟨Tryz.f136.name, by decide, Tryz.func136.trans (congrArg some (by kernel_rfl))⟩
  f50 := ⟨Tryz.f137.name, by decide, Tryz.func137.trans (congrArg some (by kernel_rfl))⟩
  f57 := ⟨Tryz.f145.name, by decide, Tryz.func145.trans (congrArg some (by kernel_rfl))⟩
  t0 := Tryz.underlying0
  a0 := Tryz.isAgg0
  z0 := Tryz.sizeOf0
  v0 := Tryz.zeroValue0
  t3 := Tryz.underlying3
  a3 := Tryz.isAgg3
  z3 := Tryz.sizeOf3
  v3 := Tryz.zeroValue3
  t4 := Tryz.underlying4
  a4 := Tryz.isAgg4
  z4 := Tryz.sizeOf4
  v4 := Tryz.zeroValue4
  t5 := Tryz.underlying5
  a5 := Tryz.isAgg5
  z5 := Tryz.sizeOf5
  v5 := Tryz.zeroValue5
  t9 := Tryz.underlying9
  a9 := Tryz.isAgg9
  z9 := Tryz.sizeOf9
  v9 := Tryz.zeroValue9
  t22 := Tryz.underlying69
  a22 := Tryz.isAgg69
  z22 := Tryz.sizeOf69
  v22 := Tryz.zeroValue69
  t25 := Tryz.underlying101
  a25 := Tryz.isAgg101
  z25 := Tryz.sizeOf101
  v25 := Tryz.zeroValue101
  t39 := Tryz.underlying128
  a39 := Tryz.isAgg128
  z39 := Tryz.sizeOf128
  v39 := Tryz.zeroValue128
  t45 := Tryz.underlying150
  a45 := Tryz.isAgg150
  z45 := Tryz.sizeOf150
  v45 := Tryz.zeroValue150
  t46 := Tryz.underlying151
  a46 := Tryz.isAgg151
  z46 := Tryz.sizeOf151
  v46 := Tryz.zeroValue151
  t50 := Tryz.underlying121
  a50 := Tryz.isAgg121
  z50 := Tryz.sizeOf121
  v50 := Tryz.zeroValue121
  t53 := Tryz.underlying157
  a53 := Tryz.isAgg157
  z53 := Tryz.sizeOf157
  v53 := Tryz.zeroValue157
  t55 := Tryz.underlying31
  a55 := Tryz.isAgg31
  z55 := Tryz.sizeOf31
  v55 := Tryz.zeroValue31
  t66 := Tryz.underlying176
  a66 := Tryz.isAgg176
  z66 := Tryz.sizeOf176
  v66 := Tryz.zeroValue176
  t70 := Tryz.underlying180
  a70 := Tryz.isAgg180
  z70 := Tryz.sizeOf180
  v70 := Tryz.zeroValue180
  t76 := Tryz.underlying186
  a76 := Tryz.isAgg186
  z76 := Tryz.sizeOf186
  v76 := Tryz.zeroValue186
  t77 := Tryz.underlying187
  a77 := Tryz.isAgg187
  z77 := Tryz.sizeOf187
  v77 := Tryz.zeroValue187 }
/-- A span with where its lists lie. -/
structure SpR where
  x : Sp
  A4 : Option Addr
  n4 : Nat
  c4 : Nat
  A11 : Option Addr
  n11 : Nat
  c11 : Nat
  A12 : Option Addr
  n12 : Nat
  c12 : Nat
instance : Inhabited SpR := ⟨⟨z41, none, 0, 0, none, 0, 0, none, 0, 0⟩⟩
def encS (r : SpR) : List Value := cSp r.x (.slice r.A4 r.n4 r.c4) (.slice r.A11 r.n11 r.c11) (.slice r.A12 r.n12 r.c12)
def cfS (a b : SpR) : Int := ordI a.x.f1 b.x.f1
theorem cmp_sid' (a b : Int) (w : World) : Calls Tryz.prog 74 #[.int .u64 a, .int .u64 b] w fun e w' => e = .returned (.int .i64 (ordI a b)) ∧ w = w' := by
  unfold ordI
  by_cases h : a < b
  · rw [if_pos h]
    go_enter Tryz.func74, Tryz.ntmps74
    go_wp2_with (go_at_call 103; refine (nan_sid _ _).mono ?_; rintro e w' ⟨rfl, rfl⟩)
    go_ret
    exact ⟨rfl, rfl⟩
  · rw [if_neg h]
    by_cases h' : b < a
    · rw [if_pos h']
      go_enter Tryz.func74, Tryz.ntmps74
      go_wp2_with (go_at_call 103; refine (nan_sid _ _).mono ?_; rintro e w' ⟨rfl, rfl⟩)
      go_ret
      exact ⟨rfl, rfl⟩
    · rw [if_neg h']
      go_enter Tryz.func74, Tryz.ntmps74
      go_wp2_with (go_at_call 103; refine (nan_sid _ _).mono ?_; rintro e w' ⟨rfl, rfl⟩)
      go_ret
      exact ⟨rfl, rfl⟩
set_option maxHeartbeats 1000000 in
set_option maxRecDepth 100000 in
theorem byId_run (a b : SpR) (W : World) : Calls Tryz.prog 73 #[.agg (encS a).toArray, .agg (encS b).toArray] W fun e w' => e = .returned (.int .i64 (cfS a b)) ∧ ∃ q os', w' = grow (W.drewN q) os' := by
  obtain ⟨⟨⟨hi, lo⟩, id, par, lk, sv, op, kd, st, s0, s1, la, le⟩, A4, n4, c4, A11, n11, c11, A12, n12, c12⟩ := a
  obtain ⟨⟨⟨hi', lo'⟩, id', par', lk', sv', op', kd', st', s0', s1', la', le'⟩, B4, m4, d4, B11, m11, d11, B12, m12, d12⟩ := b
  unfold cfS
  dsimp only [encS, cSp]
  go_enter Tryz.func73, Tryz.ntmps73
  go_wp2_with fail
  refine (cmp_sid' id id' _).mono ?_
  rintro e w' ⟨rfl, rfl⟩
  go_wp2_with fail
  go_ret
  exact ⟨rfl, 0, _, by rw [alloc_eq_grow, alloc_eq_grow, grow_grow]; rfl⟩
theorem cmpLaysS (blk off size : Nat) (w : World) : CmpLays Tryz.prog 73 #[] encS 13 cfS blk off size w :=
  fun _ _ _ _ x y => byId_run x y _
theorem ltS (x y : SpR) : ltOf cfS x y = decide (x.x.f1 < y.x.f1) := by
  unfold ltOf cfS ordI
  by_cases h1 : x.x.f1 < y.x.f1
  · simp [h1]
  · by_cases h2 : y.x.f1 < x.x.f1 <;> simp [h1, h2]
theorem swoS : SWO (ltOf cfS) where
  irrefl x := by rw [ltS]; simp
  trans x y z h1 h2 := by rw [ltS] at *; simp at *; omega
  ntrans x y z h1 h2 := by rw [ltS] at *; simp at *; omega
theorem sortedS {d d' : Array SpR} (hp : PermIn 0 d.size d d') (hs : SortedIn (ltOf cfS) 0 d.size d') : d'.toList.Pairwise (fun a b => ¬ b.x.f1 < a.x.f1) ∧ d'.toList.Perm d.toList := by
  obtain ⟨h1, _, h3⟩ := hp
  have e1 : d'.extract 0 d.size = d' := by rw [← h1]; simp
  have e2 : d.extract 0 d.size = d := by simp
  rw [e1, e2] at h3
  refine ⟨?_, h3⟩
  rw [List.pairwise_iff_getElem]
  intro i j hi hj hij
  have := hs i j (Nat.zero_le _) hij (by simpa [h1] using hj)
  rw [ltS] at this
  simp only [Array.length_toList] at hi hj
  rw [getElem!_pos d' i hi, getElem!_pos d' j hj] at this
  simpa using this
end Go.Proofs.YthdkgilpnkabmaaGreatDoor.Pr
/- A row of the call's own under the sort: its elements' cells, moved about. -/
namespace Go.Proofs.YthdkgilpnkabmaaGreatDoor.Pr
open Go Go.RowKit Go.Proofs.YthdkgilpnkabmaaGreatDoorW.PrintWords Go.Proofs.YthdkgilpnkabmaaGreatDoorW.PrintLast Go.Proofs.YthdkgilpnkabmaaGreatDoorW.PrintMore
open Go.Shelf Go.Sort
set_option linter.unusedVariables false
set_option linter.unusedSimpArgs false
section
variable {α ρ : Type} [Inhabited ρ] {d : Kd α} {e base g cap : Nat} {ok : Nat → Prop} {w : World} {xs : List α} {enc : ρ → List Value} {val : ρ → α}
theorem flat_seg (enc : ρ → List Value) (sz : Nat) (hk : ∀ r, (enc r).length = sz) (rs : Array ρ) (j : Nat) (hj : j < rs.size) : ((flatK enc sz rs).toList.drop (j * sz)).take sz = enc rs[j]! := by
  have h1 : j * sz + sz ≤ rs.size * sz := by rw [← Nat.succ_mul]; exact Nat.mul_le_mul_right sz hj
  refine List.ext_getElem ?_ (fun i h2 h3 => ?_)
  · rw [List.length_take, List.length_drop, Array.length_toList, size_flatK, hk]; omega
  · rw [hk] at h3
    rw [List.getElem_take, List.getElem_drop, Array.getElem_toList]
    have h4 := get_flatK enc sz rs (j * sz + i) (by omega)
    rw [getElem!_pos _ _ (by rw [size_flatK]; omega)] at h4
    rw [h4]
    have e1 : (j * sz + i) / sz = j := by
      rw [Nat.mul_comm, Nat.mul_add_div (by omega), Nat.div_eq_of_lt h3]; omega
    have e2 : (j * sz + i) % sz = i := by
      rw [Nat.mul_comm, Nat.mul_add_mod, Nat.mod_eq_of_lt h3]
    rw [e1, e2]
    exact getElem!_pos _ _ (by rw [hk]; exact h3)
theorem R_recs (h : d.R e w base ok (.slice (some ⟨g, 0, none⟩) xs.length cap) xs) (hpos : 0 < xs.length) (hk : ∀ r, (enc r).length = d.sz)
    (ho : ∀ ok' x c, d.M w base ok' x c → ∃ r, val r = x ∧ enc r = c) :
    ∃ rs : Array ρ, rs.toList.map val = xs ∧ HoldsK enc d.sz w g 0 rs ∧ ∀ r, r ∈ rs.toList → d.M w base (fun k => ok k ∧ k ≠ g) (val r) (enc r) := by
  obtain ⟨h0, inner, ⟨hl, hr⟩, hi, hm⟩ := h
  rcases hr with ⟨h1, _⟩ | ⟨g', cap', cur, hv, hg, hh, hnc, hcm, hcs, ht⟩
  · simp at h1
  simp only [Value.slice.injEq, Option.some.injEq, Addr.mk.injEq, and_true, true_and] at hv
  obtain ⟨rfl, rfl⟩ := hv
  have hex : ∀ j : Fin xs.length, ∃ r, val r = xs[j.1] ∧ enc r = (inner.drop (j.1 * d.sz)).take d.sz ∧ d.M w base (fun k => ok k ∧ k ≠ g) (val r) (enc r) := by
    intro j
    have h2 := hm j.1 _ (List.getElem?_eq_getElem j.2)
    obtain ⟨r, h3, h4⟩ := ho _ _ _ h2
    refine ⟨r, h3, h4, ?_⟩
    rw [h3, h4]
    exact d.M_mono (fun k hk => ⟨hk.1, fun e => hk.2 (by rw [e]; rfl)⟩) h2
  obtain ⟨f, hf⟩ : ∃ f : Fin xs.length → ρ, ∀ j, val (f j) = xs[j.1] ∧ enc (f j) = (inner.drop (j.1 * d.sz)).take d.sz ∧ d.M w base (fun k => ok k ∧ k ≠ g) (val (f j)) (enc (f j)) := ⟨fun j => Classical.choose (hex j), fun j => Classical.choose_spec (hex j)⟩
  have hf1 := fun j => (hf j).1
  have hf2 := fun j => (hf j).2.1
  have hf3 := fun j => (hf j).2.2
  refine ⟨Array.ofFn f, ?_, ?_, ?_⟩
  · refine List.ext_getElem (by simp) (fun i h1 h2 => ?_)
    simp only [List.getElem_map, Array.getElem_toList, Array.getElem_ofFn]
    exact hf1 _
  · intro j hj
    rw [size_flatK, Array.size_ofFn] at hj
    have hsz : 0 < d.sz := by rcases Nat.eq_zero_or_pos d.sz with h | h; · rw [h] at hj; omega
                              · exact h
    have hq : j / d.sz < xs.length := Nat.div_lt_of_lt_mul (by rw [Nat.mul_comm]; exact hj)
    refine ⟨?_, by simp [World.frozen?, hh]⟩
    rw [blk_cell hh, Nat.zero_add]
    have h5 : cur[j]? = inner[j]? := by
      rw [← ht, List.getElem?_take, if_pos (by exact hj), Array.getElem?_toList]
    rw [h5, get_flatK _ _ _ _ (by rw [Array.size_ofFn]; exact hj)]
    have h6 : (Array.ofFn f)[j / d.sz]! = f ⟨j / d.sz, hq⟩ := by rw [getElem!_pos _ _ (by rw [Array.size_ofFn]; exact hq)]; simp
    rw [h6, hf2]
    have h7 : j % d.sz < d.sz := Nat.mod_lt _ hsz
    have h8 : j / d.sz * d.sz + j % d.sz = j := by rw [Nat.mul_comm]; exact Nat.div_add_mod _ _
    have h9 : ((inner.drop (j / d.sz * d.sz)).take d.sz)[j % d.sz]? = inner[j]? := by
      rw [List.getElem?_take, if_pos h7, List.getElem?_drop, h8]
    have hjl : j < inner.length := by rw [hl]; exact hj
    rw [List.getElem?_eq_getElem hjl] at h9 ⊢
    congr 1
    show _ = id _
    rw [List.getElem!_eq_getElem?_getD, h9]
    rfl
  · intro r hr
    rw [Array.toList_ofFn, List.mem_ofFn] at hr
    obtain ⟨j, rfl⟩ := hr
    exact hf3 j
theorem heap_sortW (n : Nat) (F : Array Value) (os : Array Obj) (k : Nat) (hk : k < w.heap.size) : (grow (Go.Sort.putRow id (Go.Sort.ahead w n) g 0 F) os).heap[k]? = if g = k then (w.heap[k]?).map (onCells (putCells id 0 F)) else w.heap[k]? := by
  show ((w.heap.modify g _) ++ os)[k]? = _
  rw [Array.getElem?_append_left (by rw [Array.size_modify]; exact hk), Array.getElem?_modify]
theorem R_put (h : d.R e w base ok (.slice (some ⟨g, 0, none⟩) xs.length cap) xs) (hpos : 0 < xs.length) (hk : ∀ r, (enc r).length = d.sz)
    (rs : Array ρ) (hsz : rs.size = xs.length) (hM : ∀ r, r ∈ rs.toList → d.M w base (fun k => ok k ∧ k ≠ g) (val r) (enc r)) (n : Nat) (os : Array Obj) :
    d.R e (sortWorldK enc d.sz w g 0 n rs os) base ok (.slice (some ⟨g, 0, none⟩) xs.length cap) (rs.toList.map val) := by
  obtain ⟨h0, inner, ⟨hl, hr⟩, hi, hm⟩ := h
  rcases hr with ⟨h1, _⟩ | ⟨g', cap', cur, hv, hg, hh, hnc, hcm, hcs, ht⟩
  · simp at h1
  simp only [Value.slice.injEq, Option.some.injEq, Addr.mk.injEq, and_true, true_and] at hv
  obtain ⟨rfl, rfl⟩ := hv
  have hll : (rs.toList.map val).length = xs.length := by simp [hsz]
  have hcz : xs.length * d.sz ≤ cur.size := by rw [hcs]; exact Nat.mul_le_mul_right _ hnc
  have hb := heap_sortW (w := w) (g := g) n (flatK enc d.sz rs) os g (blk_lt hh)
  rw [if_pos rfl, hh] at hb
  have hF : (flatK enc d.sz rs).size = xs.length * d.sz := by rw [size_flatK, hsz]
  refine ⟨h0, (flatK enc d.sz rs).toList, ⟨by rw [Array.length_toList, hF, hll], .inr ⟨g, cap, _, by rw [hll], hg, hb, by rw [hll]; exact hnc, hcm, by rw [putCells, Array.size_mapIdx]; exact hcs, ?_⟩⟩, by rw [Array.length_toList, hF, hll], fun j p hj => ?_⟩
  · refine List.ext_getElem (by simp [putCells, hF, hsz]; omega) (fun i h2 h3 => ?_)
    rw [Array.length_toList, hF] at h3
    rw [List.getElem_take, Array.getElem_toList, Array.getElem_toList]
    simp only [putCells, Array.getElem_mapIdx]
    rw [if_pos ⟨Nat.zero_le _, by rw [hF]; omega⟩, Nat.sub_zero, getElem!_pos _ _ (by rw [hF]; exact h3)]
    rfl
  · obtain ⟨h2, h3⟩ := List.getElem?_eq_some_iff.1 hj
    rw [hll] at h2
    rw [List.getElem_map, Array.getElem_toList] at h3
    subst h3
    rw [flat_seg enc d.sz hk rs j (by omega), getElem!_pos _ _ (by omega)]
    have h4 : d.M w base (fun k => ok k ∧ some k ≠ (Value.slice (some ⟨g, 0, none⟩) xs.length cap).ownBlock) (val rs[j]) (enc rs[j]) :=
      d.M_mono (fun k hk => ⟨hk.1, fun he => hk.2 (by simp only [Value.ownBlock, Option.some.injEq] at he; exact he)⟩) (hM _ (Array.getElem_mem_toList _))
    exact Kd.M_step h4 (fun k hk hlt => (heap_sortW (w := w) (g := g) n (flatK enc d.sz rs) os k hlt).trans (if_neg (fun he => hk.2 (by rw [← he]; rfl))))
theorem below_sortW {w0 : World} (hB : Below w0.heap.size w0 w) (hg : w0.heap.size ≤ g) (sz n : Nat) (rs : Array ρ) (os : Array Obj) : Below w0.heap.size w0 (sortWorldK enc sz w g 0 n rs os) := by
  refine ⟨hB.os, hB.tape, hB.output, ?_, ?_⟩
  · have := hB.size
    show w0.heap.size ≤ ((w.heap.modify g _) ++ os).size
    rw [Array.size_append, Array.size_modify]; omega
  · intro k hk
    have := hB.size
    exact (heap_sortW (w := w) (g := g) n (flatK enc sz rs) os k (by omega)).trans ((if_neg (by omega)).trans (hB.block k hk))
theorem size_sortW (sz n : Nat) (rs : Array ρ) (os : Array Obj) : w.heap.size ≤ (sortWorldK enc sz w g 0 n rs os).heap.size := by
  show _ ≤ ((w.heap.modify g _) ++ os).size
  rw [Array.size_append, Array.size_modify]; omega
end
theorem openS (w : World) (base : Nat) (ok : Nat → Prop) (x : Sp) (c : List Value) (h : kSq.M w base ok x c) : ∃ r : SpR, r.x = x ∧ encS r = c := by
  obtain ⟨v4, v11, v12, rfl, z4, z11, z12⟩ := kSq_openM h
  obtain ⟨A4, c4, rfl, _, _⟩ := Kd.Zv_reads z4
  obtain ⟨A11, c11, rfl, _, _⟩ := Kd.Zv_reads z11
  obtain ⟨A12, c12, rfl, _, _⟩ := Kd.Zv_reads z12
  exact ⟨⟨x, A4, _, c4, A11, _, c11, A12, _, c12⟩, rfl, rfl⟩
theorem encS_len (r : SpR) : (encS r).length = 13 := rfl
theorem sort_spans : SortSp := by
  intro w0 w v xs hB hR hlen
  by_cases h0 : 0 < xs.length
  · obtain ⟨g, cap, rfl, hg, hgl, _⟩ := Kd.R_form hR h0
    obtain ⟨rs, hrs, hH, hM⟩ := R_recs (enc := encS) (val := SpR.x) hR h0 encS_len (fun ok' x c h => openS w _ ok' x c h)
    have hsz : rs.size = xs.length := by rw [← hrs]; simp
    have eg : ∀ args w, (callFunc 73 args).run Tryz.prog w = .ok (.enter 73 args) w := enters_of Tryz.func73 (by kernel_rfl) rfl
    have hcon := AnyQ.slices_SortFunc sortLs 13 (fun w => by first | exact Tryz.isAgg41 w | kernel_rfl) (fun w => by first | exact Tryz.sizeOf41 w | kernel_rfl) encS encS_len (fun x v hv => by simp only [encS, cSp, List.mem_cons, List.not_mem_nil, or_false] at hv; rcases hv with rfl | rfl | rfl | rfl | rfl | rfl | rfl | rfl | rfl | rfl | rfl | rfl | rfl <;> rfl) cfS swoS 73 #[] g 0 cap rs w eg (cmpLaysS g 0 _ w) hH hgl (by rw [hsz]; exact hlen)
    change Calls Tryz.prog 72 _ _ _ at hcon
    rw [hsz] at hcon
    refine hcon.mono ?_
    rintro e w' ⟨rfl, d', n, os, hp, hs, rfl⟩
    rw [← hsz] at hp hs
    obtain ⟨h1, h2⟩ := sortedS hp hs
    have hd : d'.size = xs.length := by rw [← hsz]; exact hp.1
    refine ⟨rfl, d'.toList.map SpR.x, ?_, List.pairwise_map.2 h1, R_put (d := kSq) hR h0 encS_len d' hd (fun r hr => hM r (h2.mem_iff.1 hr)) n os, below_sortW hB hg 13 n d' os, size_sortW 13 n d' os⟩
    rw [← hrs]
    exact h2.map SpR.x
  · have hx : xs = [] := List.eq_nil_of_length_eq_zero (by omega)
    subst hx
    obtain ⟨A, c, rfl, hc, hC⟩ := Kd.R_reads hR
    have hcon := AnyF.slices_SortFunc_none sortLs A c (.func (.func 73) #[] #[]) w
    change Calls Tryz.prog 72 _ _ _ at hcon
    refine hcon.mono ?_
    rintro e w' ⟨rfl, rfl⟩
    exact ⟨rfl, [], .nil, .nil, hR, hB, Nat.le_refl _⟩
end Go.Proofs.YthdkgilpnkabmaaGreatDoor.Pr
/- The sort of trace IDs. -/
namespace Go.Proofs.YthdkgilpnkabmaaGreatDoor.Pr
open Go Go.RowKit Go.Proofs.YthdkgilpnkabmaaGreatDoorW.PrintWords Go.Proofs.YthdkgilpnkabmaaGreatDoorW.PrintLast Go.Proofs.YthdkgilpnkabmaaGreatDoorW.PrintMore
open Go.Shelf Go.Sort
open Rm Ps
set_option linter.unusedVariables false
set_option linter.unusedSimpArgs false
/-- A world that has drawn on. -/
structure Dx (w : World) where
  W : World
  h : ∃ q, W = w.drewN q
instance Dx.inh (w : World) : Inhabited (Dx w) := ⟨⟨w, 0, rfl⟩⟩
theorem Dx.cell {w : World} (x : Dx w) {a : Addr} {v : Value} (h : w.cell? a = some v) : x.W.cell? a = some v := by
  obtain ⟨W, q, rfl⟩ := x
  exact h
theorem Calls.dx_of {P : Program} {f : FuncId} {args : Array Value} {w : World} {x : Dx w} {v : Value}
    (h : Calls P f args x.W fun e w' => e = .returned v ∧ x.W = w') : Calls P f args x.W fun e w'' => e = .returned v ∧ ∃ y : Dx w, w'' = y.W :=
  h.mono fun _ w'' ⟨he, hb⟩ => ⟨he, x, hb.symm⟩
theorem cmp_u64' (a b : Int) (w : World) : Calls Tryz.prog 80 #[.int .u64 a, .int .u64 b] w fun e w' => e = .returned (.int .i64 (ordI a b)) ∧ w = w' := by
  unfold ordI
  by_cases h : a < b
  · rw [if_pos h]
    go_enter Tryz.func80, Tryz.ntmps80
    go_wp2_with (go_at_call 114; refine (nan_u64 _ _).mono ?_; rintro e w' ⟨rfl, rfl⟩)
    go_ret
    exact ⟨rfl, rfl⟩
  · rw [if_neg h]
    by_cases h' : b < a
    · rw [if_pos h']
      go_enter Tryz.func80, Tryz.ntmps80
      go_wp2_with (go_at_call 114; refine (nan_u64 _ _).mono ?_; rintro e w' ⟨rfl, rfl⟩)
      go_ret
      exact ⟨rfl, rfl⟩
    · rw [if_neg h']
      go_enter Tryz.func80, Tryz.ntmps80
      go_wp2_with (go_at_call 114; refine (nan_u64 _ _).mono ?_; rintro e w' ⟨rfl, rfl⟩)
      go_ret
      exact ⟨rfl, rfl⟩
theorem or_run' (A : Option Addr) (c : Nat) (l : List Int) (w : World) (hr : Kd.C (Kd.int .i64) w A l.length l) (hc : l.length ≤ c) (hl : l.length ≤ 140737488351232) :
    Calls Tryz.prog 79 #[.slice A l.length c] w fun e w' => e = .returned (.int .i64 (firstF l)) ∧ w = w' := by
  have HR := Lib.hid hr
  clear hr
  go_enter Tryz.func79, Tryz.ntmps79
  go_wp2
  go_loop [8] (fun v3 => ∃ k : Nat, v3 = .int .i64 k ∧ k ≤ l.length ∧ Hid (firstF l = firstF (l.drop k))) (fun v3 => l.length - (intOf v3).toNat)
  case atStart => exact ⟨0, rfl, Nat.zero_le _, Lib.hid rfl⟩
  case round =>
    obtain ⟨k, rfl, hk, HF⟩ := hrel
    by_cases hlt : k < l.length
    · have hlk : (k : Int) < (l.length : Int) := by omega
      obtain ⟨ab, ao, rfl, hx⟩ := ints_at HR.out k hlt
      have HD := Lib.hid (first_drop l k hlt)
      generalize rd l (k : Int) = x at *
      by_cases h0 : x = 0
      · have h0' : (x != 0) = false := by rw [h0]; rfl
        go_wp2
        go_round
        case rel => exact ⟨k + 1, by go_num, by omega, Lib.hid (by rw [HF.out, HD.out, if_pos h0])⟩
        case measure => simp [intOf]; omega
      · have h0' : (x != 0) = true := by simpa using h0
        go_wp2
        go_ret
        exact ⟨by rw [HF.out, HD.out, if_neg h0]; rfl, rfl⟩
    · obtain rfl : k = l.length := by omega
      go_wp2
      go_ret
      exact ⟨by rw [HF.out, List.drop_length]; rfl, rfl⟩
abbrev Ti := S33
instance : Inhabited Ti := ⟨z33⟩
def encI (r : Ti) : List Value := [.int .u64 r.f0, .int .u64 r.f1]
def cfI (a b : Ti) : Int := firstF [ordI a.f0 b.f0, ordI a.f1 b.f1]
set_option maxHeartbeats 1000000 in
set_option maxRecDepth 100000 in
theorem above_run (a b : Ti) (w : World) : Calls Tryz.prog 53 #[.agg (encI a).toArray, .agg (encI b).toArray] w fun e w' => e = .returned (.int .i64 (cfI a b)) ∧ ∃ q os', w' = grow (w.drewN q) os' := by
  obtain ⟨ah, al⟩ := a
  obtain ⟨bh, bl⟩ := b
  dsimp only [encI, cfI]
  go_enter Tryz.func53, Tryz.ntmps53
  go_wp2_with fail
  have g1 := blk_alloc (blk_new w (.cells #[.int .u64 ah, .int .u64 al] 33)) (.cells #[.int .u64 bh, .int .u64 bl] 33)
  have g2 := blk_new (w.alloc (.cells #[.int .u64 ah, .int .u64 al] 33)) (.cells #[.int .u64 bh, .int .u64 bl] 33)
  rw [World.size_alloc] at g2
  obtain ⟨w2, hw2⟩ : ∃ w2, w2 = (w.alloc (.cells #[.int .u64 ah, .int .u64 al] 33)).alloc (.cells #[.int .u64 bh, .int .u64 bl] 33) := ⟨_, rfl⟩
  have HW := Lib.hid hw2
  rw [← hw2] at g1 g2 ⊢
  clear hw2
  have p0 := fun z : Dx w2 => z.cell ((cell_of_row _ _ 0 _ _ _ g1).trans rfl)
  have p1 := fun z : Dx w2 => z.cell ((cell_of_row _ _ 1 _ _ _ g1).trans rfl)
  have q0 := fun z : Dx w2 => z.cell ((cell_of_row _ _ 0 _ _ _ g2).trans rfl)
  have q1 := fun z : Dx w2 => z.cell ((cell_of_row _ _ 1 _ _ _ g2).trans rfl)
  clear g1 g2
  refine wp_region_quiet_tail (C := fun w' => ∃ x : Dx w2, w' = x.W) 10 (by kernel_rfl) (by kernel_rfl) ⟨⟨_, 1, rfl⟩, rfl⟩ ?_
  simp only [List.take_succ_cons, List.take_zero, List.drop_succ_cons, List.drop_zero]
  repeat (go_big_quiet_step (first | (go_at_call 80; with_reducible exact Calls.dx_of (cmp_u64' _ _ _))))
  refine wpQuiet_nil ?_
  intro _ hw'
  obtain ⟨⟨w3, q, hq⟩, rfl⟩ := hw'
  have HQ := Lib.hid hq
  clear p0 p1 q0 q1 hq
  go_wp2_with fail
  refine (or_run' _ _ [ordI ah bh, ordI al bl] _ (C_ints _ (blk_new _ _) rfl (by simp)) (by simp) (by simp)).mono ?_
  rintro e w4 ⟨rfl, rfl⟩
  go_wp2_with fail
  go_ret
  exact ⟨rfl, q, _, by
    rw [HQ.out, HW.out, alloc_eq_grow, alloc_eq_grow, alloc_eq_grow, grow_grow]
    exact grow_grow (w.drewN q) _ _⟩
theorem cmpLaysT (blk off size : Nat) (w : World) : CmpLays Tryz.prog 53 #[] encI 2 cfI blk off size w :=
  fun _ _ _ _ x y => above_run x y _
theorem cfI_lt (x y : Ti) : cfI x y < 0 ↔ (x.f0 < y.f0 ∨ (x.f0 = y.f0 ∧ x.f1 < y.f1)) := by
  unfold cfI ordI firstF firstF firstF
  repeat' split
  all_goals omega
theorem ltI (x y : Ti) : ltOf cfI x y = decide (x.f0 < y.f0 ∨ (x.f0 = y.f0 ∧ x.f1 < y.f1)) := by
  unfold ltOf
  rw [decide_eq_decide]
  exact cfI_lt x y
theorem swoI : SWO (ltOf cfI) where
  irrefl x := by rw [ltI]; simp
  trans x y z h1 h2 := by rw [ltI] at *; simp only [decide_eq_true_eq] at *; omega
  ntrans x y z h1 h2 := by rw [ltI] at *; simp only [decide_eq_false_iff_not] at *; omega
/-- A row of trace IDs of the call's own. -/
abbrev OwnI (w : World) (base : Nat) (v : Value) (xs : List Ti) : Prop := Kd.R k33 33 w base (fun _ => True) v xs
def SortPostI (w0 w : World) (v : Value) (xs : List Ti) (e : Ending) (w' : World) : Prop :=
  e = .returned (.tuple #[]) ∧ ∃ ys, ys.Perm xs ∧ ys.Pairwise (fun a b => ¬ (b.f0 < a.f0 ∨ (b.f0 = a.f0 ∧ b.f1 < a.f1))) ∧ OwnI w' w0.heap.size v ys ∧ Below w0.heap.size w0 w' ∧ w.heap.size ≤ w'.heap.size
theorem sortedI {d d' : Array Ti} (hp : PermIn 0 d.size d d') (hs : SortedIn (ltOf cfI) 0 d.size d') : d'.toList.Pairwise (fun a b => ¬ (b.f0 < a.f0 ∨ (b.f0 = a.f0 ∧ b.f1 < a.f1))) ∧ d'.toList.Perm d.toList := by
  obtain ⟨h1, _, h3⟩ := hp
  have e1 : d'.extract 0 d.size = d' := by rw [← h1]; simp
  have e2 : d.extract 0 d.size = d := by simp
  rw [e1, e2] at h3
  refine ⟨?_, h3⟩
  rw [List.pairwise_iff_getElem]
  intro i j hi hj hij
  have := hs i j (Nat.zero_le _) hij (by simpa [h1] using hj)
  rw [ltI] at this
  simp only [Array.length_toList] at hi hj
  rw [getElem!_pos d' i hi, getElem!_pos d' j hj] at this
  simpa using this
theorem encI_len (r : Ti) : (encI r).length = 2 := rfl
theorem sort_traces (w0 w : World) (v : Value) (xs : List Ti) (hB : Below w0.heap.size w0 w) (hR : OwnI w w0.heap.size v xs) (hlen : xs.length < 4611686018427387904) :
    Calls Tryz.prog 52 #[v, .func (.func 53) #[] #[]] w (SortPostI w0 w v xs) := by
  by_cases h0 : 0 < xs.length
  · obtain ⟨g, cap, rfl, hg, hgl, _⟩ := Kd.R_form hR h0
    obtain ⟨rs, hrs, hH, hM⟩ := R_recs (enc := encI) (val := fun x : Ti => x) hR h0 encI_len (fun ok' x c h => ⟨x, rfl, (k33_openM h).symm⟩)
    have hsz : rs.size = xs.length := by rw [← hrs]; simp
    have eg : ∀ args w, (callFunc 53 args).run Tryz.prog w = .ok (.enter 53 args) w := enters_of Tryz.func53 (by kernel_rfl) rfl
    have hcon := AnyQ.slices_SortFunc sortLt 2 (fun w => by first | exact Tryz.isAgg33 w | kernel_rfl) (fun w => by first | exact Tryz.sizeOf33 w | kernel_rfl) encI encI_len (fun x v hv => by simp only [encI, List.mem_cons, List.not_mem_nil, or_false] at hv; rcases hv with rfl | rfl <;> rfl) cfI swoI 53 #[] g 0 cap rs w eg (cmpLaysT g 0 _ w) hH hgl (by rw [hsz]; exact hlen)
    change Calls Tryz.prog 52 _ _ _ at hcon
    rw [hsz] at hcon
    refine hcon.mono ?_
    rintro e w' ⟨rfl, d', n, os, hp, hs, rfl⟩
    rw [← hsz] at hp hs
    obtain ⟨h1, h2⟩ := sortedI hp hs
    have hd : d'.size = xs.length := by rw [← hsz]; exact hp.1
    have hput := R_put (d := k33) (val := fun x : Ti => x) hR h0 encI_len d' hd (fun r hr => hM r (h2.mem_iff.1 hr)) n os
    rw [List.map_id'] at hput hrs
    refine ⟨rfl, d'.toList, ?_, h1, hput, below_sortW hB hg 2 n d' os, size_sortW 2 n d' os⟩
    rw [← hrs]
    exact h2
  · have hx : xs = [] := List.eq_nil_of_length_eq_zero (by omega)
    subst hx
    obtain ⟨A, c, rfl, hc, hC⟩ := Kd.R_reads hR
    have hcon := AnyF.slices_SortFunc_none sortLt A c (.func (.func 53) #[] #[]) w
    change Calls Tryz.prog 52 _ _ _ at hcon
    refine hcon.mono ?_
    rintro e w' ⟨rfl, rfl⟩
    exact ⟨rfl, [], .nil, .nil, hR, hB, Nat.le_refl _⟩
end Go.Proofs.YthdkgilpnkabmaaGreatDoor.Pr
