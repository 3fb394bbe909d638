-- Written by a program of this claim, over the kit's print: the functions that a law reaches, their plain forms and the walks.
import Derived.Test.YtoncbgjbkgdbaaaPFnExactRenameWiresx0
import Derived.Test.YtoncbgjbkgdbaaaPFnExactRenameWiresx3
namespace Go.Proofs.Ytoncbgjbkgdbaaa.PFnExactRenameWires
open Go.RowKit Go.Proofs.YtoncbgjbkgdbaaaW.PrintWords Go.Proofs.YtoncbgjbkgdbaaaW.PrintLast Go.Proofs.YtoncbgjbkgdbaaaW.PrintMore
attribute [local go_sem] max2_int min2_int max_two min_two max_three min_three max_four min_four   -- for this text's walks alone
set_option linter.unusedVariables false
set_option linter.unusedSimpArgs false

/-! ### slices_Sort_int_int: function 74 -/
/-- A row of one's own whose cells have been laid anew, and other blocks behind it. -/
theorem slices_Sort_int_int.put_heap {α : Type} [Inhabited α] {enc : α → Value} {w : World} {g n : Nat} {ys : List α} {os : Array Obj} {cur : Array Value} {t : Nat} (h : w.heap[g]? = some (.cells cur t (0, 0))) :
    (Go.Sort.grow (Go.Sort.putRow enc (Go.Sort.ahead w n) g 0 ys.toArray) os).heap[g]? = some (.cells (Go.Sort.putCells enc 0 ys.toArray cur) t (0, 0)) := by
  have hlt : g < w.heap.size := by
    rcases Nat.lt_or_ge g w.heap.size with h1 | h1
    · exact h1
    · rw [Array.getElem?_eq_none h1] at h; cases h
  unfold Go.Sort.grow Go.Sort.putRow Go.Sort.mapBlock Go.Sort.ahead
  simp only
  rw [Array.getElem?_append_left (by rw [Array.size_modify]; exact hlt), Array.getElem?_modify, if_pos rfl, h]
  rfl
theorem slices_Sort_int_int.put_other {α : Type} [Inhabited α] {enc : α → Value} {w : World} {g n : Nat} {ys : List α} {os : Array Obj} {k : Nat} (hk : k < w.heap.size) (hne : k ≠ g) :
    (Go.Sort.grow (Go.Sort.putRow enc (Go.Sort.ahead w n) g 0 ys.toArray) os).heap[k]? = w.heap[k]? := by
  unfold Go.Sort.grow Go.Sort.putRow Go.Sort.mapBlock Go.Sort.ahead
  simp only
  rw [Array.getElem?_append_left (by rw [Array.size_modify]; exact hk), Array.getElem?_modify, if_neg (fun h => hne h.symm)]
theorem slices_Sort_int_int.put_size {α : Type} [Inhabited α] {enc : α → Value} {w : World} {g n : Nat} {ys : List α} {os : Array Obj} :
    w.heap.size ≤ (Go.Sort.grow (Go.Sort.putRow enc (Go.Sort.ahead w n) g 0 ys.toArray) os).heap.size := by
  unfold Go.Sort.grow Go.Sort.putRow Go.Sort.mapBlock Go.Sort.ahead
  simp
theorem slices_Sort_int_int.put_cells {α : Type} [Inhabited α] (enc : α → Value) (ys : List α) (cur : Array Value) (h : ys.length ≤ cur.size) : (Go.Sort.putCells enc 0 ys.toArray cur).toList.take ys.length = encs enc ys ∧ (Go.Sort.putCells enc 0 ys.toArray cur).size = cur.size := by
  have hs : (Go.Sort.putCells enc 0 ys.toArray cur).size = cur.size := by simp [Go.Sort.putCells]
  refine ⟨?_, hs⟩
  apply List.ext_getElem?
  intro k
  rw [List.getElem?_take]
  by_cases hk : k < ys.length
  · rw [if_pos hk, Array.getElem?_toList]
    unfold Go.Sort.putCells encs
    rw [Array.getElem?_mapIdx, Array.getElem?_eq_getElem (by omega), Option.map_some, if_pos (by simp; omega), List.getElem?_map, List.getElem?_eq_getElem hk]
    simp [getElem!_pos, hk]
  · rw [if_neg hk, List.getElem?_eq_none (by rw [encs_length]; omega)]
/-- A row of one's own, laid anew. -/
theorem slices_Sort_int_int.put_row {α : Type} [Inhabited α] {enc : α → Value} {h1 : ∀ x, (enc x).oneCell' = true} {t : Nat} {w w0 : World} {ok : Nat → Prop} {g cap n : Nat} {xs ys : List α} {os : Array Obj} (hR : (Kd.scalar enc h1).R t w w0.heap.size ok (.slice (some ⟨g, 0, none⟩) xs.length cap) xs) (hy : ys.length = xs.length) (hB : Below w0.heap.size w0 w)
    (w' : World) (hw : w' = Go.Sort.grow (Go.Sort.putRow enc (Go.Sort.ahead w n) g 0 ys.toArray) os) :
    (Kd.scalar enc h1).R t w' w0.heap.size ok (.slice (some ⟨g, 0, none⟩) xs.length cap) ys ∧ Below w0.heap.size w0 w' ∧ Kept w w' ok := by
  obtain ⟨hl, hc⟩ := Kd.own_of_R hR
  rcases hc with ⟨hc, _⟩ | ⟨g', cap', cur, hc, hg, hh, hn, hm, hs, ht⟩
  · cases hc
  · injection hc with hc1 hc2 hc3
    injection hc1 with hc1
    injection hc1 with hc1 _ _
    subst hc1 hc3
    have hlt : w0.heap.size ≤ w.heap.size := hB.size
    obtain ⟨p1, p2⟩ := slices_Sort_int_int.put_cells enc ys cur (by rw [hs]; omega)
    subst hw
    refine ⟨?_, ?_, ?_⟩
    · rw [← hy]
      refine Kd.R_of_own ⟨by rw [encs_length]; omega, .inr ⟨g, cap, _, rfl, hg, slices_Sort_int_int.put_heap hh, by omega, hm, by rw [p2, hs], by rw [Nat.mul_one]; exact p1⟩⟩ (fun k hk => hR.1 k (by simpa [Value.ownBlock] using hk))
    · refine ⟨hB.os, hB.tape, hB.output, Nat.le_trans hB.size slices_Sort_int_int.put_size, fun k hk => ?_⟩
      rw [slices_Sort_int_int.put_other (by omega) (by omega)]
      exact hB.block k hk
    · refine ⟨slices_Sort_int_int.put_size, fun k hk hne => slices_Sort_int_int.put_other hk (fun e => hne (e ▸ hR.1 g (by simp [Value.ownBlock])))⟩
/-- What a row of one's own holds, in the sort's words. -/
theorem slices_Sort_int_int.holds {α : Type} [Inhabited α] {enc : α → Value} {h1 : ∀ x, (enc x).oneCell' = true} {t : Nat} {w : World} {b : Nat} {ok : Nat → Prop} {g cap : Nat} {xs : List α} (hR : (Kd.scalar enc h1).R t w b ok (.slice (some ⟨g, 0, none⟩) xs.length cap) xs) :
    Go.Sort.Holds enc w g 0 xs.toArray := by
  intro j hj
  have hj' : j < xs.length := by simpa using hj
  have := Kd.R_cell (xs[j]'hj') hR (j : Int) (by omega) (by omega)
  rw [Int.toNat_natCast] at this
  have e : rdOf (xs[j]'hj') xs (j : Int) = xs.toArray[j]! := by
    unfold rdOf
    simp [getElem!_pos, hj']
  rw [e] at this
  rw [Nat.zero_add]
  exact this
def LaySort_ren : Go.Shelf.Ren := ⟨fun | 189 => 74 | 125 => 80 | 257 => 79 | 128 => 91 | 129 => 92 | 294 => 82 | 295 => 83 | 296 => 84 | 297 => 85 | 298 => 86 | 299 => 87 | 216 => 88 | 300 => 89 | 301 => 90 | 328 => 93 | 329 => 94 | 330 => 95 | 331 => 96 | 332 => 97 | 215 => 81 | 343 => 98 | n => n, fun | 28 => 30 | 3 => 3 | 46 => 77 | 0 => 0 | 51 => 100 | 53 => 102 | 4 => 4 | 183 => 95 | 182 => 94 | 131 => 24 | 5 => 5 | 9 => 9 | 218 => 103 | 222 => 107 | 228 => 109 | 229 => 110 | n => n, fun | n => n⟩
theorem LaySort : Go.Proofs.Lays.n189 Try.prog LaySort_ren := {
  mixed := by kernel_rfl
  f125 := Try.func80.trans (congrArg some (by kernel_rfl))
  f128 := Try.func91.trans (congrArg some (by kernel_rfl))
  f129 := Try.func92.trans (congrArg some (by kernel_rfl))
  f189 := Try.func74.trans (congrArg some (by kernel_rfl))
  f215 := Try.func81.trans (congrArg some (by kernel_rfl))
  f216 := Try.func88.trans (congrArg some (by kernel_rfl))
  f257 := Try.func79.trans (congrArg some (by kernel_rfl))
  f294 := Try.func82.trans (congrArg some (by kernel_rfl))
  f295 := Try.func83.trans (congrArg some (by kernel_rfl))
  f296 := Try.func84.trans (congrArg some (by kernel_rfl))
  f297 := Try.func85.trans (congrArg some (by kernel_rfl))
  f298 := Try.func86.trans (congrArg some (by kernel_rfl))
  f299 := Try.func87.trans (congrArg some (by kernel_rfl))
  f300 := Try.func89.trans (congrArg some (by kernel_rfl))
  f301 := Try.func90.trans (congrArg some (by kernel_rfl))
  f328 := Try.func93.trans (congrArg some (by kernel_rfl))
  f329 := Try.func94.trans (congrArg some (by kernel_rfl))
  f330 := Try.func95.trans (congrArg some (by kernel_rfl))
  f331 := Try.func96.trans (congrArg some (by kernel_rfl))
  f332 := Try.func97.trans (congrArg some (by kernel_rfl))
  f343 := Try.func98.trans (congrArg some (by kernel_rfl))
  t0 := Try.underlying0
  a0 := Try.isAgg0
  z0 := Try.sizeOf0
  v0 := Try.zeroValue0
  t3 := Try.underlying3
  a3 := Try.isAgg3
  z3 := Try.sizeOf3
  v3 := Try.zeroValue3
  t4 := Try.underlying4
  a4 := Try.isAgg4
  z4 := Try.sizeOf4
  v4 := Try.zeroValue4
  t5 := Try.underlying5
  a5 := Try.isAgg5
  z5 := Try.sizeOf5
  v5 := Try.zeroValue5
  t9 := Try.underlying9
  a9 := Try.isAgg9
  z9 := Try.sizeOf9
  v9 := Try.zeroValue9
  t28 := Try.underlying30
  a28 := Try.isAgg30
  z28 := Try.sizeOf30
  v28 := Try.zeroValue30
  t46 := Try.underlying77
  a46 := Try.isAgg77
  z46 := Try.sizeOf77
  v46 := Try.zeroValue77
  t51 := Try.underlying100
  a51 := Try.isAgg100
  z51 := Try.sizeOf100
  v51 := Try.zeroValue100
  t53 := Try.underlying102
  a53 := Try.isAgg102
  z53 := Try.sizeOf102
  v53 := Try.zeroValue102
  t131 := Try.underlying24
  a131 := Try.isAgg24
  z131 := Try.sizeOf24
  v131 := Try.zeroValue24
  t182 := Try.underlying94
  a182 := Try.isAgg94
  z182 := Try.sizeOf94
  v182 := Try.zeroValue94
  t183 := Try.underlying95
  a183 := Try.isAgg95
  z183 := Try.sizeOf95
  v183 := Try.zeroValue95
  t218 := Try.underlying103
  a218 := Try.isAgg103
  z218 := Try.sizeOf103
  v218 := Try.zeroValue103
  t222 := Try.underlying107
  a222 := Try.isAgg107
  z222 := Try.sizeOf107
  v222 := Try.zeroValue107
  t228 := Try.underlying109
  a228 := Try.isAgg109
  z228 := Try.sizeOf109
  v228 := Try.zeroValue109
  t229 := Try.underlying110
  a229 := Try.isAgg110
  z229 := Try.sizeOf110
  v229 := Try.zeroValue110 }
def slices_Sort_int_int.f (l0 : List Int) : Option (List Int) := if l0.length < 4611686018427387904 then some (l0.mergeSort fun x y => decide (x ≤ y)) else none
theorem slices_Sort_int_int.calls (P0_ : Nat → Prop) (u : Value) (l0 : List Int) (r : List Int) (w0 w : World) (hB : Below w0.heap.size w0 w) (ho0 : Kd.R (Kd.int .i64) 3 w w0.heap.size P0_ u l0) (h : slices_Sort_int_int.f l0 = some r) :
    Calls Try.prog 74 #[u] w fun e w' => e = .returned (.tuple #[]) ∧ Kd.R (Kd.int .i64) 3 w' w0.heap.size (fun k_ => (P0_ k_ ∨ w.heap.size ≤ k_)) u r ∧ Below w0.heap.size w0 w' ∧ Kept w w' (fun k_ => P0_ k_) := by
  unfold slices_Sort_int_int.f at h
  split at h
  · rename_i hlen
    cases h
    cases l0 with
    | nil =>
      obtain ⟨A, c, rfl⟩ := Kd.R_slice ho0
      refine (Any.slices_Sort_int_none LaySort A c w).mono ?_
      rintro e w' ⟨he, rfl⟩
      rw [List.mergeSort_nil]
      exact ⟨he, Kd.R_mono ho0 (fun k hk => .inl hk), hB, Kept.refl _ _⟩
    | cons x l =>
      obtain ⟨g, cap, rfl, hg1, hg2, hg3⟩ := Kd.R_form ho0 (by simp)
      refine (Any.slices_Sort_int LaySort g 0 cap (x :: l) w (slices_Sort_int_int.holds ho0) hg2 hlen).mono ?_
      rintro e w' ⟨he, n, os, hw⟩
      obtain ⟨q1, q2, q3⟩ := slices_Sort_int_int.put_row (ys := (x :: l).mergeSort fun x y => decide (x ≤ y)) ho0 (by rw [List.length_mergeSort]) hB w' hw
      exact ⟨he, Kd.R_mono q1 (fun k hk => .inl hk), q2, q3⟩
  · cases h


-- NOT PRINTED: function 62 (slices_Sorted_int)

-- NOT PRINTED: function 75 (slices_Values_int_int_1)

-- NOT PRINTED: function 63 (slices_Values_int_int)

/-! ### impl_isPermutation: function 50 -/
/-- What has come when k rounds are over. -/
def impl_isPermutation.upto (zs : List Int) (k : Nat) : List Int := (List.range k).map fun j => zs[j]?.getD 0
theorem impl_isPermutation.upto_succ (zs : List Int) (k : Nat) : impl_isPermutation.upto zs (k + 1) = impl_isPermutation.upto zs k ++ [zs[k]?.getD 0] := by simp [impl_isPermutation.upto, List.range_succ]
theorem impl_isPermutation.upto_length (zs : List Int) (k : Nat) : (impl_isPermutation.upto zs k).length = k := by simp [impl_isPermutation.upto]
theorem impl_isPermutation.upto_take (zs : List Int) {k : Nat} (hk : k ≤ zs.length) : impl_isPermutation.upto zs k = zs.take k := by
  apply List.ext_getElem
  · simp [impl_isPermutation.upto, hk]
  · intro i h1 h2
    have : i < zs.length := by simp [impl_isPermutation.upto] at h1; omega
    simp [impl_isPermutation.upto, this]
/-- A slice value holds these numbers, in a block below n0; or it is empty. -/
def impl_isPermutation.Ints (n0 : Nat) (W : World) (sv : Value) (zs : List Int) : Prop :=
  (∃ a c, sv = .slice a 0 c ∧ zs = []) ∨ ∃ (ad : Addr) (cap : Nat), sv = .slice (some ad) zs.length cap ∧ ad.block < n0 ∧ ∀ j, j < zs.length → W.cell? (ad.add j) = some (.int .i64 (zs[j]?.getD 0))
theorem impl_isPermutation.Ints.below {n0 : Nat} {A B : World} (h : Below n0 A B) {sv : Value} {zs : List Int} : impl_isPermutation.Ints n0 A sv zs → impl_isPermutation.Ints n0 B sv zs
  | .inl e => .inl e
  | .inr ⟨ad, cap, e, hb, hc⟩ => .inr ⟨ad, cap, e, hb, fun j hj => (h.cell (p := ad.add j) (by rw [add_block]; exact hb)).trans (hc j hj)⟩
theorem impl_isPermutation.Ints.lift {n0 n1 : Nat} {A : World} (h : n0 ≤ n1) {sv : Value} {zs : List Int} : impl_isPermutation.Ints n0 A sv zs → impl_isPermutation.Ints n1 A sv zs
  | .inl e => .inl e
  | .inr ⟨ad, cap, e, hb, hc⟩ => .inr ⟨ad, cap, e, by omega, hc⟩
section
attribute [local go_sem] Oper.semAt_some
set_option maxRecDepth 100000 in
set_option maxHeartbeats 2000000 in
theorem impl_isPermutation.values1_in (F : Fence) (n : Nat) (h7 : F.fn 75) (hro : F.round = none) (hn : 1 ≤ n) (l Bs n0 len cap : Nat) (ad : Addr) (zs : List Int) (hreach : len * 8 ≤ 140737488351232) (hb : ad.block < n0) (J Jx : List Int → World → Prop)
    (hY : ∀ pre x W, J pre W → pre.length < len → YieldAt F (n - 1) Try.prog l #[.int .i64 x] W fun e W' =>
      (e = .returned (.bool true) ∧ J (pre ++ [x]) W' ∧ Below n0 W W') ∨ (e = .returned (.bool false) ∧ Jx (pre ++ [x]) W'))
    (W : World) (hBs : W.cell? ⟨Bs, 0, none⟩ = some (.slice (some ad) len cap)) (hc : ∀ j, j < len → W.cell? (ad.add j) = some (.int .i64 (zs[j]?.getD 0))) (h0 : J [] W) :
    CallsIn F n Try.prog 75 #[.func (.yield l) #[] #[], .pointer (some ⟨Bs, 0, none⟩)] W fun e W' => (∃ v, e = .returned v) ∧
      ((∃ ys, ys = impl_isPermutation.upto zs len ∧ J ys W') ∨ (∃ pre, (∃ k, k ≤ len ∧ pre = impl_isPermutation.upto zs k) ∧ Jx pre W')) := by
  refine callsIn_of_wp Try.func75 rfl h7 ?_ hro
  simp only [Try.ntmps75, List.size_toArray, List.length_cons, List.length_nil, Nat.reduceAdd, Nat.reduceSub, Array.replicate_succ, Array.replicate_zero, List.push_toArray, List.append_toArray, List.nil_append, List.cons_append]
  gi_wp2
  gi_loopw [7] (fun i wr => ∃ k : Nat, k ≤ len ∧ i = .int .i64 k ∧ J (impl_isPermutation.upto zs k) wr ∧ Below n0 W wr)
    (fun i _ => len - (intOf i).toNat)
  case atStart => exact ⟨0, Nat.zero_le _, rfl, h0, Below.refl _ _⟩
  case round =>
    obtain ⟨k, hk, rfl, hJs, hnx⟩ := hrel
    have hcx : k < len → wr.cell? (ad.add k) = some (.int .i64 (zs[k]?.getD 0)) := fun h => (hnx.cell (p := ad.add k) (by rw [add_block]; exact hb)).trans (hc k h)
    by_cases hlt : k < len
    · obtain ⟨fn, tmps, assign, body, hy, hR⟩ := hY _ (zs[k]?.getD 0) wr hJs (by rw [impl_isPermutation.upto_length]; exact hlt)
      have hcx' := hcx hlt
      gi_wp2
      refine hR.mono ?_
      rintro e W3 (⟨rfl, hJ3, hk3⟩ | ⟨rfl, hJx3⟩)
      · gi_wp2
        go_roundw
        case rel => exact ⟨k + 1, by omega, by simp, by rw [impl_isPermutation.upto_succ]; exact hJ3, hnx.trans hk3⟩
        case measure => simp [intOf]; omega
      · gi_wp2
        refine bodyPost_ret (results_none rfl _ _ _) rfl ?_
        exact ⟨⟨_, rfl⟩, .inr ⟨_, ⟨k + 1, by omega, (impl_isPermutation.upto_succ _ _).symm⟩, hJx3⟩⟩
    · obtain rfl : k = len := by omega
      gi_wp2
      go_end0
      exact ⟨⟨_, rfl⟩, .inl ⟨_, rfl, hJs⟩⟩
set_option maxRecDepth 100000 in
set_option maxHeartbeats 1000000 in
theorem impl_isPermutation.values1_nil_in (F : Fence) (n : Nat) (h7 : F.fn 75) (hro : F.round = none) (l Bs c : Nat) (a : Option Addr) (J : List Int → World → Prop) (W : World) (hBs : W.cell? ⟨Bs, 0, none⟩ = some (.slice a 0 c)) (h0 : J [] W) :
    CallsIn F n Try.prog 75 #[.func (.yield l) #[] #[], .pointer (some ⟨Bs, 0, none⟩)] W fun e W' => (∃ v, e = .returned v) ∧ J [] W' := by
  refine callsIn_of_wp Try.func75 rfl h7 ?_ hro
  simp only [Try.ntmps75, List.size_toArray, List.length_cons, List.length_nil, Nat.reduceAdd, Nat.reduceSub, Array.replicate_succ, Array.replicate_zero, List.push_toArray, List.append_toArray, List.nil_append, List.cons_append]
  gi_wp2
  gi_loopw [7] (fun i wr => i = .int .i64 0 ∧ J [] wr) (fun _ _ => 0)
  case atStart => exact ⟨rfl, h0⟩
  case round =>
    obtain ⟨rfl, hJs⟩ := hrel
    gi_wp2
    go_end0
    exact ⟨⟨_, rfl⟩, hJs⟩
set_option maxHeartbeats 1000000 in
theorem impl_isPermutation.values_in (F : Fence) (n : Nat) (h5 : F.fn 63) (hro : F.round = none) (a : Option Addr) (len cap : Nat) (w : World) :
    CallsIn F n Try.prog 63 #[.slice a len cap] w fun e w' => e = .returned (.func (.func 75) #[] #[.pointer (some ⟨w.heap.size, 0, none⟩)]) ∧ w' = w.alloc (.cells #[.slice a len cap] 30) := by
  refine callsIn_of_wp Try.func63 rfl h5 ?_ hro
  simp only [Try.ntmps63, List.size_toArray, List.length_cons, List.length_nil, Nat.reduceAdd, Nat.reduceSub, Array.replicate_succ, Array.replicate_zero, List.push_toArray, List.append_toArray, List.nil_append, List.cons_append]
  gi_wp2
  go_ret
  exact ⟨rfl, rfl⟩
theorem impl_isPermutation.values_stops (F : Fence) (n : Nat) (h7 : F.fn 75) (hro : F.round = none) (hn : 1 ≤ n) (Bs n0 : Nat) (sv : Value) (zs : List Int) (hreach : zs.length * 8 ≤ 140737488351232) (w : World) (hBs : Bs < w.heap.size) (hn0 : n0 ≤ w.heap.size)
    (hc : w.cell? ⟨Bs, 0, none⟩ = some sv) (hI : impl_isPermutation.Ints n0 w sv zs) :
    SeqStopsK F n Try.prog 75 #[.pointer (some ⟨Bs, 0, none⟩)] (fun x : Int => #[Value.int .i64 x]) (Below n0) (fun ys => ys = zs) (fun pre => pre <+: zs) zs.length w := fun l J Jx W hW _ _ hY h0 => by
  have hc' := (hW.cell (p := ⟨Bs, 0, none⟩) hBs).trans hc
  rcases hI.below (hW.mono hn0) with ⟨a, c, rfl, rfl⟩ | ⟨ad, cap, rfl, hb, hcs⟩
  · exact (impl_isPermutation.values1_nil_in F n h7 hro l Bs c a J W hc' h0).mono fun e W' ⟨he, hj⟩ => ⟨he, .inl ⟨_, rfl, hj⟩⟩
  · refine (impl_isPermutation.values1_in F n h7 hro hn l Bs n0 zs.length cap ad zs hreach hb J Jx hY W hc' hcs h0).mono ?_
    rintro e W' ⟨he, ⟨ys, rfl, hj⟩ | ⟨pre, ⟨k, hk, rfl⟩, hj⟩⟩
    · exact ⟨he, .inl ⟨_, by rw [impl_isPermutation.upto_take zs (Nat.le_refl _), List.take_length], hj⟩⟩
    · exact ⟨he, .inr ⟨_, by rw [impl_isPermutation.upto_take zs hk]; exact List.take_prefix _ _, hj⟩⟩
theorem impl_isPermutation.infoE : (Try.prog.info? 3).map (fun i => (i.zero, i.size, i.bytes)) = some (some (.int .i64 0), 1, 8) := by kernel_rfl
set_option maxRecDepth 100000 in
set_option maxHeartbeats 2000000 in
/-- AppendSeq(nil, Values(..)): a row of one's own that holds the same. -/
theorem impl_isPermutation.append_in (F : Fence) (n : Nat) (h3 : F.fn 78) (h5 : F.fn 75) (hro : F.round = none) (hn : 3 ≤ n) (Bs : Nat) (sv : Value) (xs : List Int) (hlen : xs.length * 8 ≤ 140737488351232) (w : World) (hBs : Bs < w.heap.size) (hbs : w.cell? ⟨Bs, 0, none⟩ = some sv) (hL : impl_isPermutation.Ints w.heap.size w sv xs) :
    CallsIn F n Try.prog 78 #[.slice none 0 0, .func (.func 75) #[] #[.pointer (some ⟨Bs, 0, none⟩)]] w fun e W' => ∃ v, e = .returned v ∧ W'.ownsRow w.heap.size 3 1 v xs.length (xs.map (Value.int .i64)) ∧ Below w.heap.size w W' := by
  have h1 : 1 ≤ n := by omega
  obtain ⟨i0, hi, hz0, hz1, hz2⟩ := info_parts impl_isPermutation.infoE
  refine callsIn_of_wp_marks Try.func78 rfl h3 ?_ hro
  simp only [Try.ntmps78, List.size_toArray, List.length_cons, List.length_nil, Nat.reduceAdd, Nat.reduceSub, Array.replicate_succ, Array.replicate_zero, List.push_toArray, List.append_toArray, List.nil_append, List.cons_append]
  gi_wp2
  have hml : xs.length ≤ maxLen := by simp only [maxLen]; omega
  have bO := Boxed.new w 30 (.slice none 0 0)
  have hB0 : Below w.heap.size w (w.alloc (.cells #[.slice none 0 0] 30)) := (Below.refl _ w).alloc (Nat.le_refl _) _
  refine wpIn_rangeFunc_ownG hro h1 (gf := 75) (lb := #[.pointer (some ⟨Bs, 0, none⟩)]) rfl h5 (enters_of Try.func75 (by kernel_rfl) rfl)
    (impl_isPermutation.values_stops F (n - 1) h5 hro (by omega) Bs w.heap.size sv xs hlen _ (by simp; omega) (by simp) ((hB0.cell (p := ⟨Bs, 0, none⟩) hBs).trans hbs) (hL.below hB0)) belowK_t (belowK_b (by simp)) (Below.refl _ _) (fun _ => rfl)
    (fun (pre : List Int) W => (∃ v, Boxed W w.heap.size 30 v ∧ W.ownsRow w.heap.size 3 1 v pre.length (pre.map (Value.int .i64)) ∧ True) ∧ Below w.heap.size w W)
    (fun _ _ _ => False)
    (OwnFrom.and (Own.from (holdsRow_own w.heap.size w.heap.size 30 3 1 (fun (pre : List Int) => pre.length) (fun (pre : List Int) => pre.map (Value.int .i64)) (fun (pre : List Int) v => True)) _) (ownFrom_below (Nat.le_refl _) (by simp)))
    (fun _ _ _ _ _ hs _ _ => hs)
    ⟨⟨_, bO, World.ownsRow_nil _ _ _ _, trivial⟩, hB0⟩
    (fun x => { tmps := #[.slice none 0 0, .func (.func 75) #[] #[.pointer (some ⟨Bs, 0, none⟩)], .pointer (some ⟨w.heap.size, 0, none⟩), undef, .slice none 0 0, .int .i64 x, .func (.func 75) #[] #[.pointer (some ⟨Bs, 0, none⟩)], .int .i64 x, undef, undef, undef, undef, undef], defers := [] }) ?assign ?body ?done ?stop
  case assign =>
    intro l x W K hK
    gi_wp2
    exact hK
  case body =>
    rintro l pre x W ⟨⟨v, hv, hrow, _⟩, hB⟩ hlt
    have hc := hv.cell
    gi_wp2_with (gi_at_builtin; refine wpListIn_append_own _ rfl _ _ 30 rfl w.heap.size 3 i0 (.int .i64 0) 1 8 Try.underlying30 hi hz0 hz1 hz2 rfl (by decide) _ _ _ rfl (hrow.alloc _) ⟨W.heap.size, 0, none⟩ 1 1 [.int .i64 x] rfl rfl (cell_one_new _ _ _) (by simp [Value.oneCell']) (by omega) (by omega) (by have := hB.size; simp; omega) ?_; intro v' w1 hown' hgrow _; obtain ⟨g', cap', rfl⟩ := ownsRow_succ hown'; obtain ⟨hv1, hv2, hr2, hk2, hb2⟩ := hv.appended (by decide) hrow hB.size (Nat.le_refl _) hown' hgrow; have hc1 := hv1.cell; have hf1 := hv1.frozen)
    exact ⟨hk2.from _, hb2, ⟨_, hv2, by simpa using hr2, trivial⟩, hB.trans hb2⟩
  case done =>
    rintro D ys W hD rfl ⟨⟨v, hv, hrow, _⟩, hB⟩ hK
    have hc := hv.cell
    gi_wp2
    refine ⟨by simp, .inl ⟨_, _, rfl, run_takeDeferred hK, ?_⟩⟩
    exact ⟨_, results_tmp rfl _ _ _, v, rfl, ownsRow_putObj hrow _ hK rfl, hB.trans (belowK_b (w := w) (Nat.le_refl _) W D _ _ (by simp at hD; omega) hK rfl rfl)⟩
  case stop =>
    rintro D c pre W _ _ h _
    exact h.elim
set_option maxHeartbeats 1000000 in
theorem impl_isPermutation.collect_in (F : Fence) (n : Nat) (h8 : F.fn 73) (h3 : F.fn 78) (h5 : F.fn 75) (hro : F.round = none) (hn : 4 ≤ n) (Bs : Nat) (sv : Value) (xs : List Int) (hlen : xs.length * 8 ≤ 140737488351232) (w : World) (hBs : Bs < w.heap.size) (hbs : w.cell? ⟨Bs, 0, none⟩ = some sv) (hL : impl_isPermutation.Ints w.heap.size w sv xs) :
    CallsIn F n Try.prog 73 #[.func (.func 75) #[] #[.pointer (some ⟨Bs, 0, none⟩)]] w fun e W' => ∃ v, e = .returned v ∧ W'.ownsRow w.heap.size 3 1 v xs.length (xs.map (Value.int .i64)) ∧ Below w.heap.size w W' := by
  have h1 : 1 ≤ n := by omega
  refine callsIn_of_wp Try.func73 rfl h8 ?_ hro
  simp only [Try.ntmps73, List.size_toArray, List.length_cons, List.length_nil, Nat.reduceAdd, Nat.reduceSub, Array.replicate_succ, Array.replicate_zero, List.push_toArray, List.append_toArray, List.nil_append, List.cons_append]
  gi_wp2_with (gi_at_call 78; refine (impl_isPermutation.append_in F (n - 1) h3 h5 hro (by omega) Bs sv xs hlen _ hBs hbs hL).mono ?_; rintro e w' ⟨v, rfl, hrow, hb⟩)
  go_ret
  exact ⟨v, rfl, hrow, hb⟩
theorem impl_isPermutation.collect (Bs : Nat) (sv : Value) (xs : List Int) (hlen : xs.length * 8 ≤ 140737488351232) (w : World) (hBs : Bs < w.heap.size) (hbs : w.cell? ⟨Bs, 0, none⟩ = some sv) (hL : impl_isPermutation.Ints w.heap.size w sv xs) :
    Calls Try.prog 73 #[.func (.func 75) #[] #[.pointer (some ⟨Bs, 0, none⟩)]] w fun e W' => ∃ v, e = .returned v ∧ W'.ownsRow w.heap.size 3 1 v xs.length (xs.map (Value.int .i64)) ∧ Below w.heap.size w W' :=
  (callsIn_wide (n := 4)).1 (impl_isPermutation.collect_in Fence.wide 4 trivial trivial trivial rfl (by omega) Bs sv xs hlen w hBs hbs hL)
theorem impl_isPermutation.values (a : Option Addr) (len cap : Nat) (w : World) :
    Calls Try.prog 63 #[.slice a len cap] w fun e w' => e = .returned (.func (.func 75) #[] #[.pointer (some ⟨w.heap.size, 0, none⟩)]) ∧ w' = w.alloc (.cells #[.slice a len cap] 30) :=
  (callsIn_wide (n := 1)).1 (impl_isPermutation.values_in Fence.wide 1 trivial rfl a len cap w)
end
set_option maxHeartbeats 1000000 in
theorem impl_isPermutation.sorted (Bs : Nat) (sv : Value) (xs : List Int) (hlen : xs.length ≤ 1000000000) (w : World) (hBs : Bs < w.heap.size) (hbs : w.cell? ⟨Bs, 0, none⟩ = some sv) (hL : impl_isPermutation.Ints w.heap.size w sv xs) :
    Calls Try.prog 62 #[.func (.func 75) #[] #[.pointer (some ⟨Bs, 0, none⟩)]] w fun e W' => ∃ v, e = .returned v ∧ Kd.R (Kd.int .i64) 3 W' w.heap.size (fun _ => True) v (xs.mergeSort fun x y => decide (x ≤ y)) ∧ Below w.heap.size w W' := by
  have HL := Aside0.mk hL
  clear hL
  go_enter Try.func62, Try.ntmps62
  go_wp2_with fail
  refine (impl_isPermutation.collect Bs sv xs (by omega) w hBs hbs HL.out).mono ?_
  rintro e w1 ⟨v, rfl, hrow, hb⟩
  have R1 : Kd.R (Kd.int .i64) 3 w1 w.heap.size (fun _ => True) v xs := Kd.R_of_own hrow (fun _ _ => trivial)
  obtain ⟨A, c, rfl⟩ := Kd.R_slice R1
  have HR := Aside0.mk R1
  have HB := Aside0.mk hb
  clear R1 hrow hb hbs
  go_wp2_with fail
  refine (slices_Sort_int_int.calls (fun _ => True) _ xs (xs.mergeSort fun x y => decide (x ≤ y)) w w1 HB.out HR.out (by unfold slices_Sort_int_int.f; rw [if_pos (by omega)])).mono ?_
  rintro e w2 ⟨rfl, hR2, hB2, _⟩
  have HR2 := Aside0.mk (Kd.R_mono (ok' := fun _ => True) hR2 (fun _ _ => trivial))
  have HB2 := Aside0.mk hB2
  clear hR2 hB2
  go_wp2
  go_ret
  exact ⟨_, rfl, HR2.out, HB2.out⟩
def impl_isPermutation.f (l0 : List Int) (a1 : Int) : Option Bool := if l0.length ≤ 1000000000 then some (decide (l0.mergeSort (fun x y => decide (x ≤ y)) = (List.range l0.length).map fun (i : Nat) => (i : Int)) && decide ((l0.length : Int) = a1)) else none
set_option maxHeartbeats 2000000 in
theorem impl_isPermutation.calls (A0 : Option Addr) (c0 : Nat) (l0 : List Int) (a1 : Int) (r : Bool) (w : World) (hr0 : Kd.C (Kd.int .i64) w A0 l0.length l0) (hc0 : l0.length ≤ c0) (h : impl_isPermutation.f l0 a1 = some r) :
    Calls Try.prog 50 #[.slice A0 l0.length c0, .int .i64 a1] w fun e w' => e = .returned (.bool r) ∧ Below w.heap.size w w' := by
  unfold impl_isPermutation.f at h
  split at h
  case isFalse => cases h
  rename_i hlen
  have HI : Aside0 (impl_isPermutation.Ints w.heap.size w (.slice A0 l0.length c0) l0) := by
    refine ⟨?_⟩
    obtain ⟨_, _, hn⟩ := hr0
    cases l0 with
    | nil => exact .inl ⟨A0, c0, rfl, rfl⟩
    | cons x l =>
      obtain ⟨ad, rfl, hc⟩ := hn (by simp)
      have hcell : ∀ j, j < (x :: l).length → w.cell? (ad.add j) = some (.int .i64 ((x :: l)[j]?.getD 0)) := fun j hj => by
        obtain ⟨c, hl, hK, hcc⟩ := hc j _ (List.getElem?_eq_getElem hj)
        obtain rfl : c = [.int .i64 (x :: l)[j]] := hK
        have := hcc 0 _ rfl
        have e : j * (Kd.int .i64).sz + 0 = j := by simp [Kd.int, Kd.scalar]
        rw [e] at this
        rw [List.getElem?_eq_getElem hj, Option.getD_some]
        exact this
      exact .inr ⟨ad, c0, rfl, World.block_lt_of_cell? w _ (hcell 0 (by simp)), hcell⟩
  have HH := Aside0.mk h
  have HLEN := Aside0.mk hlen
  clear h hr0 hlen
  go_enter Try.func50, Try.ntmps50
  go_wp2_with fail
  refine (impl_isPermutation.values A0 l0.length c0 w).mono ?_
  rintro e w1 ⟨rfl, hw1⟩
  have B1 := Aside0.mk (show Below w.heap.size w w1 by rw [hw1]; exact (Below.refl _ w).alloc (Nat.le_refl _) _)
  have S1 := Aside0.mk (show w.heap.size < w1.heap.size by rw [hw1]; simp)
  have C1 := Aside0.mk (show w1.cell? ⟨w.heap.size, 0, none⟩ = some (.slice A0 l0.length c0) by rw [hw1]; exact (blk_cell (heap_alloc_new w _) 0).trans rfl)
  clear hw1
  go_wp2_with fail
  refine (impl_isPermutation.sorted w.heap.size (.slice A0 l0.length c0) l0 HLEN.out w1 S1.out C1.out (by have h := HI.out.below B1.out; exact h.lift (Nat.le_of_lt S1.out))).mono ?_
  rintro e w2 ⟨v, rfl, hR, hB⟩
  obtain ⟨S, hS⟩ : ∃ S, S = l0.mergeSort fun x y => decide (x ≤ y) := ⟨_, rfl⟩
  have HSL := Aside0.mk (show S.length = l0.length by rw [hS, List.length_mergeSort])
  rw [← hS] at hR
  have HRr := Aside0.mk (show some (decide (S = (List.range l0.length).map fun (i : Nat) => (i : Int)) && decide ((l0.length : Int) = a1)) = some r by rw [hS]; exact HH.out)
  obtain ⟨A, c, rfl⟩ := Kd.R_slice hR
  have B2 := Aside0.mk (below_step B1.out hB)
  have CR := Aside0.mk (Kd.R_reads' hR).2.2
  clear hR hB hS C1 HI HH
  go_wp2
  go_loopg [11] (S.length + 1) (fun gg v11 wr => ∃ i : Nat, v11 = .int .i64 (i : Int) ∧ Aside0 (i ≤ S.length ∧ S.length + 1 - i ≤ gg) ∧ Aside0 (∀ j, j < i → S[j]? = some (j : Int)) ∧ Aside0 (Below w2.heap.size w2 wr))
  case atStart => exact ⟨0, rfl, ⟨by omega, by omega⟩, ⟨fun j hj => by omega⟩, ⟨Below.refl _ _⟩⟩
  case round =>
    obtain ⟨i, rfl, HX, HP, HB⟩ := hrel
    by_cases hi : i < S.length
    · have hx := List.getElem?_eq_getElem hi
      generalize S[i] = x at hx
      obtain ⟨ad, cs, hA, hl, hK, hcc⟩ := Kd.C_get (Kd.C_below CR.out HB.out) (0 : Int) (i : Int) (by omega) (by omega)
      obtain rfl : cs = [.int .i64 x] := by
        have h : cs = [.int .i64 (S.getD (i : Int).toNat 0)] := hK
        rw [h, Int.toNat_natCast, List.getD_eq_getElem?_getD, hx]
        rfl
      have hcell : wr.cell? (ad.add i) = some (.int .i64 x) := by
        have h := hcc 0 _ rfl
        rw [Int.toNat_natCast] at h
        have e : i * (Kd.int .i64).sz + 0 = i := by simp [Kd.int, Kd.scalar]
        rw [e] at h
        exact h
      subst hA
      have hi1 : decide ((i : Int) < (S.length : Int)) = true := decide_eq_true (by omega)
      have hi2 : ((i : Int) < (S.length : Int)) = True := eq_true (by omega)
      have hxu : wrap64 ((i : Int) + 1) = (i : Int) + 1 := by have := HLEN.out; have := HSL.out; unfold wrap64; omega
      have hxu2 : IntKind.i64.wrap ((i : Int) + 1) = (i : Int) + 1 := (i64_w _).trans hxu
      have HXX := Aside0.mk hx
      have HII := Aside0.mk hi
      clear hx hl hK hcc
      by_cases he : x = (i : Int)
      · have he1 : (x == (i : Int)) = true := beq_iff_eq.mpr he
        have HE := Aside0.mk he
        clear he
        go_wp2
        go_roundg (S.length + 1 - (i + 1))
        case measure => have := HX.out; have := HII.out; omega
        case rel => exact ⟨i + 1, by first | rfl | (simp; done) | (rw [hxu]; rfl), ⟨by have := HII.out; omega, by omega⟩, ⟨fun j hj => by
          by_cases h : j = i
          · rw [h, HXX.out, HE.out]
          · exact HP.out j (by omega)⟩, ⟨below_step HB.out (by first | exact Below.refl _ _ | (apply pw_below_drewN; exact Below.refl _ _))⟩⟩
      · have he1 : (x == (i : Int)) = false := beq_eq_false_iff_ne.mpr he
        have HE := Aside0.mk he
        clear he
        go_wp2
        go_ret
        have hr : r = false := by
          have h := Option.some.inj HRr.out
          rw [← h, Bool.and_eq_false_iff]
          refine .inl (decide_eq_false fun e => HE.out ?_)
          have h2 := HXX.out
          have h3 := HII.out
          have h4 := HSL.out
          rw [e, List.getElem?_map, List.getElem?_range (by omega)] at h2
          exact (Option.some.inj h2).symm
        rw [hr]
        exact ⟨rfl, below_step B2.out HB.out⟩
    · have hi1 : decide ((i : Int) < (S.length : Int)) = false := decide_eq_false (by omega)
      have hi2 : ((i : Int) < (S.length : Int)) = False := eq_false (by omega)
      have hr : r = ((l0.length : Int) == a1) := by
        have h := Option.some.inj HRr.out
        rw [← h, decide_eq_true (p := S = (List.range l0.length).map fun (i : Nat) => (i : Int)), Bool.true_and]
        · by_cases e : (l0.length : Int) = a1 <;> simp [e]
        have h4 := HSL.out
        have h5 := HX.out
        apply List.ext_getElem?
        intro j
        by_cases hj : j < S.length
        · rw [HP.out j (by omega), List.getElem?_map, List.getElem?_range (by omega)]
          rfl
        · rw [List.getElem?_eq_none (by omega), List.getElem?_eq_none (by simp; omega)]
      subst hr
      clear HRr
      go_wp2
      go_ret
      exact ⟨rfl, below_step B2.out HB.out⟩


/-! ### impl_RenameWires: function 25 -/
mutual
def impl_RenameWires.j0 : Nat → List Int → List Int → Bool → Option (List Int × Bool)
  | 0, _, _, _ => none
  | k + 1, x0, x1, x18 => if x18 = true then (some (([] : List Int), false)) else (if 0 ≤ (x0.length : Int) then (if ((x0.length : Int) : Int).toNat ≤ 35184372088832 then (impl_RenameWires.l0 k x0 (List.replicate ((x0.length : Int) : Int).toNat 0) x1 (x1.length : Int) 0) else (none)) else (none))
def impl_RenameWires.l0 : Nat → List Int → List Int → List Int → Int → Int → Option (List Int × Bool)
  | 0, _, _, _, _, _ => none
  | k + 1, x0, x6, x22, x23, x24 => if x24 < x23 then (if 0 ≤ x24 then (if x24 < (x22.length : Int) then (if x24 < (x0.length : Int) then (if 0 ≤ (rd x22 x24) then (if (rd x22 x24) < (x6.length : Int) then (impl_RenameWires.l0 k x0 (x6.set ((rd x22 x24) : Int).toNat (rd x0 x24)) x22 x23 (wrap64 (x24 + 1))) else (none)) else (none)) else (none)) else (none)) else (none)) else ((impl_anew.f k x6).bind fun t177 => (some (t177, true)))
end
def impl_RenameWires.f (k : Nat) (l0 : List Int) (l1 : List Int) : Option (List Int × Bool) := (impl_IsGrouping.f k l0).bind fun t169 => (if t169 = true then ((impl_isPermutation.f l1 (l0.length : Int)).bind fun t170 => (impl_RenameWires.j0 k l0 l1 (!t170))) else (impl_RenameWires.j0 k l0 l1 true))
theorem impl_RenameWires.mono_l : ∀ k, (∀ y0 y1 y2, LeO (impl_RenameWires.j0 k y0 y1 y2) (impl_RenameWires.j0 (k + 1) y0 y1 y2)) ∧ (∀ y0 y1 y2 y3 y4, LeO (impl_RenameWires.l0 k y0 y1 y2 y3 y4) (impl_RenameWires.l0 (k + 1) y0 y1 y2 y3 y4))
  | 0 => ⟨fun _ _ _ r h => by simp [impl_RenameWires.j0] at h, fun _ _ _ _ _ r h => by simp [impl_RenameWires.l0] at h⟩
  | k + 1 => by
    obtain ⟨ih0, ih1⟩ := impl_RenameWires.mono_l k
    refine ⟨?_, ?_⟩
    · intro y0 y1 y2
      unfold impl_RenameWires.j0
      repeat' first
      | (with_reducible exact ih0 _ _ _)
      | (with_reducible exact ih1 _ _ _ _ _)
      | (with_reducible exact impl_IsGrouping.mono _ _)
      | (with_reducible exact impl_anew.mono _ _)
      | (with_reducible exact LeO.refl _)
      | (with_reducible exact LeO.none _)
      | (with_reducible refine LeO.ite ?_ ?_)
      | (with_reducible refine LeO.bind ?_ (fun _ => ?_))
      | exact ih0 _ _ _
      | exact ih1 _ _ _ _ _
      | exact impl_IsGrouping.mono _ _
      | exact impl_anew.mono _ _
      | exact LeO.none _
      | refine LeO.ite ?_ ?_
      | refine LeO.bind ?_ (fun _ => ?_)
    · intro y0 y1 y2 y3 y4
      unfold impl_RenameWires.l0
      repeat' first
      | (with_reducible exact ih0 _ _ _)
      | (with_reducible exact ih1 _ _ _ _ _)
      | (with_reducible exact impl_IsGrouping.mono _ _)
      | (with_reducible exact impl_anew.mono _ _)
      | (with_reducible exact LeO.refl _)
      | (with_reducible exact LeO.none _)
      | (with_reducible refine LeO.ite ?_ ?_)
      | (with_reducible refine LeO.bind ?_ (fun _ => ?_))
      | exact ih0 _ _ _
      | exact ih1 _ _ _ _ _
      | exact impl_IsGrouping.mono _ _
      | exact impl_anew.mono _ _
      | exact LeO.none _
      | refine LeO.ite ?_ ?_
      | refine LeO.bind ?_ (fun _ => ?_)
theorem impl_RenameWires.mono : ∀ a0 a1 k, LeO (impl_RenameWires.f k a0 a1) (impl_RenameWires.f (k + 1) a0 a1) := by
  intro a0 a1 k
  obtain ⟨ih0, ih1⟩ := impl_RenameWires.mono_l k
  unfold impl_RenameWires.f
  repeat' first
      | (with_reducible exact ih0 _ _ _)
      | (with_reducible exact ih1 _ _ _ _ _)
      | (with_reducible exact impl_IsGrouping.mono _ _)
      | (with_reducible exact impl_anew.mono _ _)
      | (with_reducible exact LeO.refl _)
      | (with_reducible exact LeO.none _)
      | (with_reducible refine LeO.ite ?_ ?_)
      | (with_reducible refine LeO.bind ?_ (fun _ => ?_))
      | exact ih0 _ _ _
      | exact ih1 _ _ _ _ _
      | exact impl_IsGrouping.mono _ _
      | exact impl_anew.mono _ _
      | exact LeO.none _
      | refine LeO.ite ?_ ?_
      | refine LeO.bind ?_ (fun _ => ?_)
set_option maxHeartbeats 8000000 in
set_option maxRecDepth 100000 in
theorem impl_RenameWires.calls (k : Nat) (A0 : Option Addr) (c0 : Nat) (l0 : List Int) (A1 : Option Addr) (c1 : Nat) (l1 : List Int) (r1 : List Int) (r2 : Bool) (w : World) (hr0 : Kd.C (Kd.int .i64) w A0 l0.length l0) (hc0 : l0.length ≤ c0) (hr1 : Kd.C (Kd.int .i64) w A1 l1.length l1) (hc1 : l1.length ≤ c1) (h : impl_RenameWires.f k l0 l1 = some (r1, r2)) :
    Calls Try.prog 25 #[.slice A0 l0.length c0, .slice A1 l1.length c1] w fun e w' => ∃ v0_ : Value, e = .returned (.tuple #[v0_, .bool r2]) ∧ Kd.R (Kd.int .i64) 3 w' w.heap.size (fun _ => True) v0_ r1 ∧ Below w.heap.size w w' := by
  have HR0 := Aside0.mk hr0
  have HC0 := Aside0.mk hc0
  clear hr0 hc0
  have HR1 := Aside0.mk hr1
  have HC1 := Aside0.mk hc1
  clear hr1 hc1
  have HB := Aside0.mk (Below.refl w.heap.size w)
  have H : ((impl_IsGrouping.f k l0).bind fun t169 => (if t169 = true then ((impl_isPermutation.f l1 (l0.length : Int)).bind fun t170 => (impl_RenameWires.j0 k l0 l1 (!t170))) else (impl_RenameWires.j0 k l0 l1 true))) = some (r1, r2) := h
  clear h
  have HC3 := Aside0.mk H
  clear H
  go_enter Try.func25, Try.ntmps25
  go_upto_region 1 with (fail)
  go_cut [18] (fun v18 wc => ∃ (kq : Nat) (x18_2 : Bool), v18 = .bool x18_2 ∧ Aside0 (impl_RenameWires.j0 kq l0 l1 x18_2 = some (r1, r2)) ∧ Aside0 (kq ≤ k) ∧ Aside0 (Below w.heap.size w wc))
  case first =>
    have H := HC3.out
    clear HC3
    replace H := Option.bind_eq_some_iff.mp H
    obtain ⟨t169, A40, H⟩ := H
    replace H : (if t169 = true then ((impl_isPermutation.f l1 (l0.length : Int)).bind fun t170 => (impl_RenameWires.j0 k l0 l1 (!t170))) else (impl_RenameWires.j0 k l0 l1 true)) = some (r1, r2) := H
    have A4 := Aside0.mk A40
    clear A40
    by_cases c5 : t169 = true
    · subst c5
      have H1 : ((impl_isPermutation.f l1 (l0.length : Int)).bind fun t170 => (impl_RenameWires.j0 k l0 l1 (!t170))) = some (r1, r2) := by rw [if_pos rfl] at H; exact H
      clear H
      have H := H1
      clear H1
      replace H := Option.bind_eq_some_iff.mp H
      obtain ⟨t170, A60, H⟩ := H
      replace H : (impl_RenameWires.j0 k l0 l1 (!t170)) = some (r1, r2) := H
      have A6 := Aside0.mk A60
      clear A60
      have H' := Aside0.mk H
      clear H
      go_wp2_with (first | ((with_reducible refine gate_callee (f := 49) rfl ?_); refine goesL_ (some 10) rfl rfl Try.func49 (by kernel_rfl) rfl #[.slice A0 l0.length c0] rfl (by (try simp only [List.map_toArray, List.map_cons, List.map_nil]); first | done | rfl | (simp only [List.length_drop, List.length_take]; rfl) | (simp; done) | (refine congrArg Value.bool ?_; simp; done) | (refine congrArg (fun z_ => #[Value.bool z_]) ?_; simp; done)) ?_; (with_reducible refine (impl_IsGrouping.calls k _ _ l0 true _ ?side1 ?side2 A4.out).mono ?_); (case side1 => repeat (first | exact (Kd.C_below HR0.out HB.out) | (with_reducible refine Kd.C_alloc ?_ _) | (with_reducible refine Kd.C_drewN ?_ _) | (with_reducible refine Kd.C_drew ?_))); (case side2 => exact HC0.out); rintro e w7 ⟨rfl, hb⟩; refine ⟨_, rfl, ?_⟩; have n0_ := Aside0.mk (below_step (by repeat (first | (with_reducible first | exact HB.out | apply below_alloc | apply pw_below_drewN | apply below_drew1) | exact HB.out)) hb); clear HB; have HB := n0_; clear n0_; (try clear hb); (try clear hb2); (try clear hk); (try clear hi)) | (go_at_call 50; (with_reducible refine (impl_isPermutation.calls _ _ l1 (l0.length : Int) t170 _ ?side1 ?side2 A6.out).mono ?_); (case side1 => repeat (first | exact (Kd.C_below HR1.out HB.out) | (with_reducible refine Kd.C_alloc ?_ _) | (with_reducible refine Kd.C_drewN ?_ _) | (with_reducible refine Kd.C_drew ?_))); (case side2 => exact HC1.out); rintro e w8 ⟨rfl, hb⟩; have n0_ := Aside0.mk (below_step (by repeat (first | (with_reducible first | exact HB.out | apply below_alloc | apply pw_below_drewN | apply below_drew1) | exact HB.out)) hb); clear HB; have HB := n0_; clear n0_; (try clear hb); (try clear hb2); (try clear hk); (try clear hi)))
      go_meet
      case rel => exact ⟨_, (!t170), (by first | rfl | (simp; done) | (simp [*]; done)), H', ⟨by first | omega | exact Nat.le_refl _⟩, ⟨by repeat (first | (with_reducible first | exact HB.out | apply below_alloc | apply pw_below_drewN | apply below_drew1) | exact HB.out)⟩⟩
    · replace c5 := Bool.eq_false_iff.mpr c5
      subst c5
      have H1 : (impl_RenameWires.j0 k l0 l1 true) = some (r1, r2) := by rw [if_neg (show ¬ (false = true) by decide)] at H; exact H
      clear H
      have H := H1
      clear H1
      have H' := Aside0.mk H
      clear H
      go_wp2_with (first | ((with_reducible refine gate_callee (f := 49) rfl ?_); refine goesL_ (some 10) rfl rfl Try.func49 (by kernel_rfl) rfl #[.slice A0 l0.length c0] rfl (by (try simp only [List.map_toArray, List.map_cons, List.map_nil]); first | done | rfl | (simp only [List.length_drop, List.length_take]; rfl) | (simp; done) | (refine congrArg Value.bool ?_; simp; done) | (refine congrArg (fun z_ => #[Value.bool z_]) ?_; simp; done)) ?_; (with_reducible refine (impl_IsGrouping.calls k _ _ l0 false _ ?side1 ?side2 A4.out).mono ?_); (case side1 => repeat (first | exact (Kd.C_below HR0.out HB.out) | (with_reducible refine Kd.C_alloc ?_ _) | (with_reducible refine Kd.C_drewN ?_ _) | (with_reducible refine Kd.C_drew ?_))); (case side2 => exact HC0.out); rintro e w9 ⟨rfl, hb⟩; refine ⟨_, rfl, ?_⟩; have n0_ := Aside0.mk (below_step (by repeat (first | (with_reducible first | exact HB.out | apply below_alloc | apply pw_below_drewN | apply below_drew1) | exact HB.out)) hb); clear HB; have HB := n0_; clear n0_; (try clear hb); (try clear hb2); (try clear hk); (try clear hi)))
      go_meet
      case rel => exact ⟨_, (true), (by first | rfl | (simp; done) | (simp [*]; done)), H', ⟨by first | omega | exact Nat.le_refl _⟩, ⟨by repeat (first | (with_reducible first | exact HB.out | apply below_alloc | apply pw_below_drewN | apply below_drew1) | exact HB.out)⟩⟩
  case rest =>
    clear HC3
    try clear c1
    try clear c2
    try clear p2
    try clear c4
    try clear c5
    obtain ⟨kq, x18_2, rfl, HA, HJ2, HB⟩ := hcut
    cases kq with
    | zero => exact absurd HA.out (by simp [impl_RenameWires.j0])
    | succ kj2 =>
      have H := HA.out
      clear HA
      simp only [impl_RenameWires.j0] at H
      by_cases c10 : x18_2 = true
      · subst c10
        have H1 : (some (([] : List Int), false)) = some (r1, r2) := by rw [if_pos rfl] at H; exact H
        clear H
        have H := H1
        clear H1
        simp only [Option.some.injEq, Prod.mk.injEq] at H
        obtain ⟨rfl, rfl⟩ := H
        go_wp2
        go_ret2
        exact ⟨_, by first | rfl | (simp [errW_none, errW_some] <;> rfl) | (simp [*, errW_none, errW_some] <;> rfl), by first | exact Kd.R_nil _ _ _ _ _ | exact Kd.N_nil _ _ _ _ _ | exact Kd.V_nil _ _ _ _ _ | exact Kd.Q_nil _ _ _ _ _ | exact Kd.S_nil _ _ _ _ _, by repeat (first | (with_reducible first | exact HB.out | apply below_alloc | apply pw_below_drewN | apply below_drew1) | exact HB.out)⟩
      · replace c10 := Bool.eq_false_iff.mpr c10
        subst c10
        have H1 : (if 0 ≤ (l0.length : Int) then (if ((l0.length : Int) : Int).toNat ≤ 35184372088832 then (impl_RenameWires.l0 kj2 l0 (List.replicate ((l0.length : Int) : Int).toNat 0) l1 (l1.length : Int) 0) else (none)) else (none)) = some (r1, r2) := by rw [if_neg (show ¬ (false = true) by decide)] at H; exact H
        clear H
        have H := H1
        clear H1
        by_cases c11 : 0 ≤ (l0.length : Int)
        · rw [if_pos c11] at H
          have c11b0 := eq_true c11
          have c11b1 : decide (0 ≤ (l0.length : Int)) = true := decide_eq_true c11
          clear c11
          by_cases c12 : ((l0.length : Int) : Int).toNat ≤ 35184372088832
          · rw [if_pos c12] at H
            have c12b0 := eq_true c12
            have c12b1 : decide (((l0.length : Int) : Int).toNat ≤ 35184372088832) = true := decide_eq_true c12
            clear c12
            obtain ⟨y171, hy171⟩ : ∃ y_ : List Int, y_ = (List.replicate ((l0.length : Int) : Int).toNat 0) := ⟨_, rfl⟩
            replace H : (impl_RenameWires.l0 kj2 l0 y171 l1 (l1.length : Int) 0) = some (r1, r2) := by first | (rw [hy171]; with_reducible exact H) | (have H2_ := (Option.bind_some _ _).symm.trans H; rw [hy171]; with_reducible exact H2_) | (have H2_ := (Option.bind_some _ _).symm.trans H; with_reducible exact H2_) | with_reducible exact H | (rw [hy171]; exact H) | exact H
            have Ny171 := Aside0.mk hy171
            clear hy171
            have H' := Aside0.mk H
            clear H
            go_wp2_with (first | ((with_reducible refine gate_dst (N := 21) rfl ?_); (try (refine gate_guard (by rfl) ?_; dsimp only)); refine Kd.R_make (Kd.int .i64) _ 3 rfl (N := 21) rfl 30 _ _ rfl (l0.length : Int) rfl rfl Try.underlying30 (.int .i64 0) 8 info3 rfl (by decide) (by omega) 0 (ok := fun _ => True) (okp := fun _ => True) rfl (fun _ hk => hk) trivial (of_decide_eq_true (by first | (with_reducible assumption) | assumption)) (Nat.le_trans (Nat.mul_le_mul_right _ (of_decide_eq_true (by first | (with_reducible assumption) | assumption) : (l0.length : Int).toNat ≤ 35184372088832)) (by omega)) (Below.refl _ _) (Nat.le_refl _) ?_; intro v172 w13 ho14 hb hg_ hnew_; clear hg_ hnew_; (first | rw [← Ny171.out] at ho14 | (simp only [Int.reduceToNat] at ho14; rw [← Ny171.out] at ho14)); have n0_ := Aside0.mk (Kd.R_lower ho14 (below_size (by repeat (first | (with_reducible first | exact HB.out | apply below_alloc | apply pw_below_drewN | apply below_drew1) | exact HB.out)))); have n1_ := Aside0.mk (below_step (by repeat (first | (with_reducible first | exact HB.out | apply below_alloc | apply pw_below_drewN | apply below_drew1) | exact HB.out)) hb); clear HB; have HO173 := n0_; have HB := n1_; clear n0_ n1_; clear hb ho14))
            go_loopg [24] kj2 (fun kq v24 w' => ∃ (x6_2 : List Int) (x24_2 : Int), v24 = .int .i64 x24_2 ∧ Aside0 (impl_RenameWires.l0 kq l0 x6_2 l1 (l1.length : Int) x24_2 = some (r1, r2)) ∧ Aside0 (kq ≤ kj2) ∧ Aside0 (Kd.R (Kd.int .i64) 3 w' w.heap.size (fun _ => True) v172 x6_2) ∧ Aside0 (Below w.heap.size w w'))
            case atStart => exact ⟨(y171), (0), (by first | rfl | (simp; done) | (simp [*]; done)), H', ⟨Nat.le_refl _⟩, ⟨by (with_reducible repeat (first | apply Kd.R_alloc | apply Kd.R_drewN | apply Kd.R_drew)); exact HO173.out⟩, ⟨by repeat (first | (with_reducible first | exact HB.out | apply below_alloc | apply pw_below_drewN | apply below_drew1) | exact HB.out)⟩⟩
            case round =>
              clear H'
              try clear c1
              try clear c2
              try clear p2
              try clear c4
              try clear c5
              try clear c10
              try clear c11
              try clear c11b0
              try clear c11b1
              try clear c12
              try clear c12b0
              try clear c12b1
              try clear p2
              obtain ⟨x6_2, x24_2, rfl, HA, HK2, HO_6, HB⟩ := hrel
              cases gk with
              | zero => exact absurd HA.out (by simp [impl_RenameWires.l0])
              | succ k2 =>
                have H := HA.out
                clear HA
                simp only [impl_RenameWires.l0] at H
                by_cases c15 : x24_2 < (l1.length : Int)
                · rw [if_pos c15] at H
                  have c15b0 : decide (x24_2 < (l1.length : Int)) = true := decide_eq_true c15
                  clear c15
                  by_cases c16 : 0 ≤ x24_2
                  · rw [if_pos c16] at H
                    have c16b0 : decide (0 ≤ x24_2) = true := decide_eq_true c16
                    clear c16
                    by_cases c17 : x24_2 < (l1.length : Int)
                    · rw [if_pos c17] at H
                      have c17b0 : decide (x24_2 < (l1.length : Int)) = true := decide_eq_true c17
                      clear c17
                      by_cases c18 : x24_2 < (l0.length : Int)
                      · rw [if_pos c18] at H
                        have c18b0 : decide (x24_2 < (l0.length : Int)) = true := decide_eq_true c18
                        clear c18
                        by_cases c19 : 0 ≤ (rd l1 x24_2)
                        · rw [if_pos c19] at H
                          have c19b0 : decide (0 ≤ (rd l1 x24_2)) = true := decide_eq_true c19
                          clear c19
                          by_cases c20 : (rd l1 x24_2) < (x6_2.length : Int)
                          · rw [if_pos c20] at H
                            have c20b0 : decide ((rd l1 x24_2) < (x6_2.length : Int)) = true := decide_eq_true c20
                            clear c20
                            obtain ⟨y176, hy176⟩ : ∃ y_ : List Int, y_ = (x6_2.set ((rd l1 x24_2) : Int).toNat (rd l0 x24_2)) := ⟨_, rfl⟩
                            replace H : (impl_RenameWires.l0 k2 l0 y176 l1 (l1.length : Int) (wrap64 (x24_2 + 1))) = some (r1, r2) := by first | (rw [hy176]; with_reducible exact H) | (have H2_ := (Option.bind_some _ _).symm.trans H; rw [hy176]; with_reducible exact H2_) | (have H2_ := (Option.bind_some _ _).symm.trans H; with_reducible exact H2_) | with_reducible exact H | (rw [hy176]; exact H) | exact H
                            have Ny176 := Aside0.mk hy176
                            clear hy176
                            have H' := Aside0.mk H
                            clear H
                            have p174 : 0 ≤ (x24_2 : Int) := of_decide_eq_true (by first | (with_reducible assumption) | assumption)
                            have q174 : x24_2 < (l1.length : Int) := of_decide_eq_true (by first | (with_reducible assumption) | assumption)
                            obtain ⟨ad174, e174, hx174_0⟩ := Kd.at_int HR1.out x24_2 p174 q174
                            cases e174
                            replace hx174_0 := (HB.out.cell (World.block_lt_of_cell? w _ hx174_0)).trans hx174_0
                            replace p174 := eq_true p174
                            replace q174 := eq_true q174
                            have p175 : 0 ≤ (x24_2 : Int) := of_decide_eq_true (by first | (with_reducible assumption) | assumption)
                            have q175 : x24_2 < (l0.length : Int) := of_decide_eq_true (by first | (with_reducible assumption) | assumption)
                            obtain ⟨ad175, e175, hx175_0⟩ := Kd.at_int HR0.out x24_2 p175 q175
                            cases e175
                            replace hx175_0 := (HB.out.cell (World.block_lt_of_cell? w _ hx175_0)).trans hx175_0
                            replace p175 := eq_true p175
                            replace q175 := eq_true q175
                            have p21 : 0 ≤ ((rd l1 x24_2) : Int) := of_decide_eq_true (by first | (with_reducible assumption) | assumption)
                            have q21 : ((rd l1 x24_2) : Int) < ((x6_2.length : Int) : Int) := of_decide_eq_true (by first | (with_reducible assumption) | assumption)
                            obtain ⟨go21, co21, eo21, gb21, gl21, cl21, HG21⟩ := Kd.R_form HO_6.out (by omega)
                            (first | cases eo21 | (injection eo21 with ea_ en_ ec_; (first | subst ea_ | (injection ea_ with ea_; subst ea_)); subst ec_; clear en_))
                            have GB21 := Aside0.mk gb21
                            have GG21 := Aside0.mk HG21
                            clear gb21 gl21 HG21
                            obtain ⟨hx21_0, hf21_0⟩ := Kd.R_celln 0 HO_6.out ((rd l1 x24_2) : Int) p21 q21
                            replace p21 := eq_true p21
                            replace q21 := eq_true q21
                            have HP22 := Kd.R_putg HO_6.out ((rd l1 x24_2) : Int) (rd l0 x24_2)
                            go_wp2_with (first | ((with_reducible refine gate_store (t := 3) (p := 35) rfl ?_); refine store_event (t := 3) (p := 35) (v := ?vo_w23) (w1 := (wr.setCell ⟨go21, ((rd l1 x24_2) : Int).toNat, none⟩ (.int .i64 (rd l0 x24_2)))) ?hg ?ho ?hn ?hr ?_; (case ho => rfl); (case hg => rfl); (case hn => rfl); (case hr => first | (go_simp; done) | (go_simp; rfl)); intro w23 hw; have hg : wr.grownBy w23 (some go21) := (by rw [hw]; exact HP22.2); have hp_ : Kd.R (Kd.int .i64) 3 w23 w.heap.size (fun _ => True) (.slice (some ⟨go21, 0, none⟩) x6_2.length co21) y176 := (by rw [hw, Ny176.out]; exact HP22.1); clear HP22; have n0_ := Aside0.mk (hp_); have n1_ := Aside0.mk ((by rw [hw]; exact below_set (HB.out) GB21.out : Below w.heap.size w w23)); clear HO_6; clear HB; have HO_6 := n0_; have HB := n1_; clear n0_ n1_; clear hg hw hp_))
                            go_roundg k2
                            case measure => have := HJ2.out; have := HK2.out; omega
                            case rel => exact ⟨(y176), (wrap64 (x24_2 + 1)), (by first | rfl | (simp; done) | (simp [*]; done)), H', ⟨by have := HJ2.out; have := HK2.out; omega⟩, ⟨by (with_reducible repeat (first | apply Kd.R_alloc | apply Kd.R_drewN | apply Kd.R_drew)); exact HO_6.out⟩, ⟨by repeat (first | (with_reducible first | exact HB.out | apply below_alloc | apply pw_below_drewN | apply below_drew1) | exact HB.out)⟩⟩
                          · rw [if_neg c20] at H
                            exact absurd H (by simp)
                        · rw [if_neg c19] at H
                          exact absurd H (by simp)
                      · rw [if_neg c18] at H
                        exact absurd H (by simp)
                    · rw [if_neg c17] at H
                      exact absurd H (by simp)
                  · rw [if_neg c16] at H
                    exact absurd H (by simp)
                · rw [if_neg c15] at H
                  have c15b0 : decide (x24_2 < (l1.length : Int)) = false := decide_eq_false c15
                  clear c15
                  replace H := Option.bind_eq_some_iff.mp H
                  obtain ⟨t177, A240, H⟩ := H
                  replace H : (some (t177, true)) = some (r1, r2) := H
                  have A24 := Aside0.mk A240
                  clear A240
                  simp only [Option.some.injEq, Prod.mk.injEq] at H
                  obtain ⟨rfl, rfl⟩ := H
                  obtain ⟨Ao25, co25, eo25⟩ := Kd.R_slice HO_6.out
                  subst eo25
                  go_wp2_with (first | ((with_reducible refine gate_callee (f := 51) rfl ?_); refine goesL_ (some 38) rfl rfl Try.func51 (by kernel_rfl) rfl #[.slice Ao25 x6_2.length co25] rfl (by (try simp only [List.map_toArray, List.map_cons, List.map_nil]); first | done | rfl | (simp only [List.length_drop, List.length_take]; rfl) | (simp; done) | (refine congrArg Value.bool ?_; simp; done) | (refine congrArg (fun z_ => #[Value.bool z_]) ?_; simp; done)) ?_; (with_reducible refine (impl_anew.calls k2 _ _ x6_2 t177 _ ?side1 ?side2 A24.out).mono ?_); (case side1 => repeat (first | exact (Kd.R_reads' HO_6.out).2.2 | (with_reducible refine Kd.C_alloc ?_ _) | (with_reducible refine Kd.C_drewN ?_ _) | (with_reducible refine Kd.C_drew ?_))); (case side2 => exact (Kd.R_reads' HO_6.out).2.1); rintro e w26 ⟨v178, rfl, ho0, hb⟩; refine ⟨_, rfl, ?_⟩; have n0_ := Aside0.mk (Kd.R_elder' (by (with_reducible repeat (first | apply Kd.R_alloc | apply Kd.R_drewN | apply Kd.R_drew)); exact HO_6.out) (Kd.R_base ho0) hb); have n1_ := Aside0.mk (Kd.R_lower (Kd.R_new' ho0 (Kd.R_lt (by (with_reducible repeat (first | apply Kd.R_alloc | apply Kd.R_drewN | apply Kd.R_drew)); exact HO_6.out))) (below_size (by repeat (first | (with_reducible first | exact HB.out | apply below_alloc | apply pw_below_drewN | apply below_drew1) | exact HB.out)))); have n2_ := Aside0.mk (below_step (by repeat (first | (with_reducible first | exact HB.out | apply below_alloc | apply pw_below_drewN | apply below_drew1) | exact HB.out)) hb); clear HO_6; clear HB; have HO_6 := n0_; have HO179 := n1_; have HB := n2_; clear n0_ n1_ n2_; (try clear hb); (try clear hb2); (try clear hk); (try clear hi); (try clear ho0)))
                  go_ret2
                  exact ⟨_, by first | rfl | (simp [errW_none, errW_some] <;> rfl) | (simp [*, errW_none, errW_some] <;> rfl), by (with_reducible repeat (first | apply Kd.R_alloc | apply Kd.R_drewN | apply Kd.R_drew)); exact Kd.R_mono HO179.out (fun _ hk => trivial), by repeat (first | (with_reducible first | exact HB.out | apply below_alloc | apply pw_below_drewN | apply below_drew1) | exact HB.out)⟩
          · rw [if_neg c12] at H
            exact absurd H (by simp)
        · rw [if_neg c11] at H
          exact absurd H (by simp)

end Go.Proofs.Ytoncbgjbkgdbaaa.PFnExactRenameWires
