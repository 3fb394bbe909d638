-- Written by a program of this claim, over the kit's print: the functions that a law reaches, their plain forms and the walks.
import Derived.Test.YtbghdbpaihkcjaaDoorPFnExactBestTestx0
import Derived.Test.YtbghdbpaihkcjaaDoorPFnExactBestTestx5
namespace Go.Proofs.YtbghdbpaihkcjaaDoor.PFnExactBestTest
open Go.RowKit Go.Proofs.YtbghdbpaihkcjaaDoorW.PrintWords Go.Proofs.YtbghdbpaihkcjaaDoorW.PrintLast Go.Proofs.YtbghdbpaihkcjaaDoorW.PrintMore
attribute [local go_sem] max2_int min2_int max_two min_two max_three min_three max_four min_four   -- for this text's walks alone
set_option linter.unusedVariables false
set_option linter.unusedSimpArgs false

/-! ### slices_SortFunc_uint16_uint16: function 51 -/
/-- A row of one's own whose cells have been laid anew, and other blocks behind it. -/
theorem slices_SortFunc_uint16_uint16.put_heap {α : Type} [Inhabited α] {enc : α → Value} {w : World} {g n : Nat} {ys : List α} {os : Array Obj} {cur : Array Value} {t : Nat} (h : w.heap[g]? = some (.cells cur t (0, 0))) :
    (Go.Sort.grow (Go.Sort.putRow enc (Go.Sort.ahead w n) g 0 ys.toArray) os).heap[g]? = some (.cells (Go.Sort.putCells enc 0 ys.toArray cur) t (0, 0)) := by
  have hlt : g < w.heap.size := by
    rcases Nat.lt_or_ge g w.heap.size with h1 | h1
    · exact h1
    · rw [Array.getElem?_eq_none h1] at h; cases h
  unfold Go.Sort.grow Go.Sort.putRow Go.Sort.mapBlock Go.Sort.ahead
  simp only
  rw [Array.getElem?_append_left (by rw [Array.size_modify]; exact hlt), Array.getElem?_modify, if_pos rfl, h]
  rfl
theorem slices_SortFunc_uint16_uint16.put_other {α : Type} [Inhabited α] {enc : α → Value} {w : World} {g n : Nat} {ys : List α} {os : Array Obj} {k : Nat} (hk : k < w.heap.size) (hne : k ≠ g) :
    (Go.Sort.grow (Go.Sort.putRow enc (Go.Sort.ahead w n) g 0 ys.toArray) os).heap[k]? = w.heap[k]? := by
  unfold Go.Sort.grow Go.Sort.putRow Go.Sort.mapBlock Go.Sort.ahead
  simp only
  rw [Array.getElem?_append_left (by rw [Array.size_modify]; exact hk), Array.getElem?_modify, if_neg (fun h => hne h.symm)]
theorem slices_SortFunc_uint16_uint16.put_size {α : Type} [Inhabited α] {enc : α → Value} {w : World} {g n : Nat} {ys : List α} {os : Array Obj} :
    w.heap.size ≤ (Go.Sort.grow (Go.Sort.putRow enc (Go.Sort.ahead w n) g 0 ys.toArray) os).heap.size := by
  unfold Go.Sort.grow Go.Sort.putRow Go.Sort.mapBlock Go.Sort.ahead
  simp
theorem slices_SortFunc_uint16_uint16.put_cells {α : Type} [Inhabited α] (enc : α → Value) (ys : List α) (cur : Array Value) (h : ys.length ≤ cur.size) : (Go.Sort.putCells enc 0 ys.toArray cur).toList.take ys.length = encs enc ys ∧ (Go.Sort.putCells enc 0 ys.toArray cur).size = cur.size := by
  have hs : (Go.Sort.putCells enc 0 ys.toArray cur).size = cur.size := by simp [Go.Sort.putCells]
  refine ⟨?_, hs⟩
  apply List.ext_getElem?
  intro k
  rw [List.getElem?_take]
  by_cases hk : k < ys.length
  · rw [if_pos hk, Array.getElem?_toList]
    unfold Go.Sort.putCells encs
    rw [Array.getElem?_mapIdx, Array.getElem?_eq_getElem (by omega), Option.map_some, if_pos (by simp; omega), List.getElem?_map, List.getElem?_eq_getElem hk]
    simp [getElem!_pos, hk]
  · rw [if_neg hk, List.getElem?_eq_none (by rw [encs_length]; omega)]
/-- A row of one's own, laid anew. -/
theorem slices_SortFunc_uint16_uint16.put_row {α : Type} [Inhabited α] {enc : α → Value} {h1 : ∀ x, (enc x).oneCell' = true} {t : Nat} {w w0 : World} {ok : Nat → Prop} {g cap n : Nat} {xs ys : List α} {os : Array Obj} (hR : (Kd.scalar enc h1).R t w w0.heap.size ok (.slice (some ⟨g, 0, none⟩) xs.length cap) xs) (hy : ys.length = xs.length) (hB : Below w0.heap.size w0 w)
    (w' : World) (hw : w' = Go.Sort.grow (Go.Sort.putRow enc (Go.Sort.ahead w n) g 0 ys.toArray) os) :
    (Kd.scalar enc h1).R t w' w0.heap.size ok (.slice (some ⟨g, 0, none⟩) xs.length cap) ys ∧ Below w0.heap.size w0 w' ∧ Kept w w' ok := by
  obtain ⟨hl, hc⟩ := Kd.own_of_R hR
  rcases hc with ⟨hc, _⟩ | ⟨g', cap', cur, hc, hg, hh, hn, hm, hs, ht⟩
  · cases hc
  · injection hc with hc1 hc2 hc3
    injection hc1 with hc1
    injection hc1 with hc1 _ _
    subst hc1 hc3
    have hlt : w0.heap.size ≤ w.heap.size := hB.size
    obtain ⟨p1, p2⟩ := slices_SortFunc_uint16_uint16.put_cells enc ys cur (by rw [hs]; omega)
    subst hw
    refine ⟨?_, ?_, ?_⟩
    · rw [← hy]
      refine Kd.R_of_own ⟨by rw [encs_length]; omega, .inr ⟨g, cap, _, rfl, hg, slices_SortFunc_uint16_uint16.put_heap hh, by omega, hm, by rw [p2, hs], by rw [Nat.mul_one]; exact p1⟩⟩ (fun k hk => hR.1 k (by simpa [Value.ownBlock] using hk))
    · refine ⟨hB.os, hB.tape, hB.output, Nat.le_trans hB.size slices_SortFunc_uint16_uint16.put_size, fun k hk => ?_⟩
      rw [slices_SortFunc_uint16_uint16.put_other (by omega) (by omega)]
      exact hB.block k hk
    · refine ⟨slices_SortFunc_uint16_uint16.put_size, fun k hk hne => slices_SortFunc_uint16_uint16.put_other hk (fun e => hne (e ▸ hR.1 g (by simp [Value.ownBlock])))⟩
/-- What a row of one's own holds, in the sort's words. -/
theorem slices_SortFunc_uint16_uint16.holds {α : Type} [Inhabited α] {enc : α → Value} {h1 : ∀ x, (enc x).oneCell' = true} {t : Nat} {w : World} {b : Nat} {ok : Nat → Prop} {g cap : Nat} {xs : List α} (hR : (Kd.scalar enc h1).R t w b ok (.slice (some ⟨g, 0, none⟩) xs.length cap) xs) :
    Go.Sort.Holds enc w g 0 xs.toArray := by
  intro j hj
  have hj' : j < xs.length := by simpa using hj
  have := Kd.R_cell (xs[j]'hj') hR (j : Int) (by omega) (by omega)
  rw [Int.toNat_natCast] at this
  have e : rdOf (xs[j]'hj') xs (j : Int) = xs.toArray[j]! := by
    unfold rdOf
    simp [getElem!_pos, hj']
  rw [e] at this
  rw [Nat.zero_add]
  exact this
def LaySf1_ren : Go.Shelf.Ren := ⟨fun | 6 => 51 | 15 => 69 | 14 => 68 | 28 => 86 | 29 => 87 | 20 => 78 | 21 => 79 | 22 => 80 | 23 => 81 | 24 => 82 | 25 => 83 | 26 => 84 | 27 => 85 | 46 => 94 | 47 => 95 | 48 => 96 | 49 => 97 | 50 => 98 | 57 => 104 | n => n, fun | 22 => 46 | 24 => 48 | 25 => 55 | 3 => 3 | 39 => 76 | 0 => 0 | 53 => 93 | 55 => 95 | 4 => 4 | 46 => 87 | 45 => 86 | 50 => 32 | 5 => 5 | 9 => 9 | 66 => 98 | 70 => 102 | 76 => 113 | 77 => 114 | n => n, fun | n => n⟩
theorem LaySf1 : Go.Proofs.SlLaysF.n6 Tryd.prog LaySf1_ren := {
  mixed := by kernel_rfl
  f6 := ⟨Tryd.f51.name, by decide, Tryd.func51.trans (congrArg some (by kernel_rfl))⟩
  f14 := ⟨Tryd.f68.name, by decide, Tryd.func68.trans (congrArg some (by kernel_rfl))⟩
  f15 := Tryd.func69.trans (congrArg some (by kernel_rfl))
  f20 := ⟨Tryd.f78.name, by decide, Tryd.func78.trans (congrArg some (by kernel_rfl))⟩
  f21 := ⟨Tryd.f79.name, by decide, Tryd.func79.trans (congrArg some (by kernel_rfl))⟩
  f22 := ⟨Tryd.f80.name, by decide, Tryd.func80.trans (congrArg some (by kernel_rfl))⟩
  f23 := ⟨Tryd.f81.name, by decide, Tryd.func81.trans (congrArg some (by kernel_rfl))⟩
  f24 := ⟨Tryd.f82.name, by decide, Tryd.func82.trans (congrArg some (by kernel_rfl))⟩
  f25 := ⟨Tryd.f83.name, by decide, Tryd.func83.trans (congrArg some (by kernel_rfl))⟩
  f26 := ⟨Tryd.f84.name, by decide, Tryd.func84.trans (congrArg some (by kernel_rfl))⟩
  f27 := ⟨Tryd.f85.name, by decide, Tryd.func85.trans (congrArg some (by kernel_rfl))⟩
  f28 := Tryd.func86.trans (congrArg some (by kernel_rfl))
  f29 := Tryd.func87.trans (congrArg some (by kernel_rfl))
  f46 := ⟨Tryd.f94.name, by decide, Tryd.func94.trans (congrArg some (by kernel_rfl))⟩
  f47 := Tryd.func95.trans (congrArg some (by kernel_rfl))
  f48 := Tryd.func96.trans (congrArg some (by kernel_rfl))
  f49 := ⟨Tryd.f97.name, by decide, Tryd.func97.trans (congrArg some (by kernel_rfl))⟩
  f50 := ⟨Tryd.f98.name, by decide, Tryd.func98.trans (congrArg some (by kernel_rfl))⟩
  f57 := ⟨Tryd.f104.name, by decide, Tryd.func104.trans (congrArg some (by kernel_rfl))⟩
  t0 := Tryd.underlying0
  a0 := Tryd.isAgg0
  z0 := Tryd.sizeOf0
  v0 := Tryd.zeroValue0
  t3 := Tryd.underlying3
  a3 := Tryd.isAgg3
  z3 := Tryd.sizeOf3
  v3 := Tryd.zeroValue3
  t4 := Tryd.underlying4
  a4 := Tryd.isAgg4
  z4 := Tryd.sizeOf4
  v4 := Tryd.zeroValue4
  t5 := Tryd.underlying5
  a5 := Tryd.isAgg5
  z5 := Tryd.sizeOf5
  v5 := Tryd.zeroValue5
  t9 := Tryd.underlying9
  a9 := Tryd.isAgg9
  z9 := Tryd.sizeOf9
  v9 := Tryd.zeroValue9
  t22 := Tryd.underlying46
  a22 := Tryd.isAgg46
  z22 := Tryd.sizeOf46
  v22 := Tryd.zeroValue46
  a24 := Tryd.isAgg48
  z24 := Tryd.sizeOf48
  t25 := Tryd.underlying55
  a25 := Tryd.isAgg55
  z25 := Tryd.sizeOf55
  v25 := Tryd.zeroValue55
  t39 := Tryd.underlying76
  a39 := Tryd.isAgg76
  z39 := Tryd.sizeOf76
  v39 := Tryd.zeroValue76
  t45 := Tryd.underlying86
  a45 := Tryd.isAgg86
  z45 := Tryd.sizeOf86
  v45 := Tryd.zeroValue86
  t46 := Tryd.underlying87
  a46 := Tryd.isAgg87
  z46 := Tryd.sizeOf87
  v46 := Tryd.zeroValue87
  t50 := Tryd.underlying32
  a50 := Tryd.isAgg32
  z50 := Tryd.sizeOf32
  v50 := Tryd.zeroValue32
  t53 := Tryd.underlying93
  a53 := Tryd.isAgg93
  z53 := Tryd.sizeOf93
  v53 := Tryd.zeroValue93
  t55 := Tryd.underlying95
  a55 := Tryd.isAgg95
  z55 := Tryd.sizeOf95
  v55 := Tryd.zeroValue95
  t66 := Tryd.underlying98
  a66 := Tryd.isAgg98
  z66 := Tryd.sizeOf98
  v66 := Tryd.zeroValue98
  t70 := Tryd.underlying102
  a70 := Tryd.isAgg102
  z70 := Tryd.sizeOf102
  v70 := Tryd.zeroValue102
  t76 := Tryd.underlying113
  a76 := Tryd.isAgg113
  z76 := Tryd.sizeOf113
  v76 := Tryd.zeroValue113
  t77 := Tryd.underlying114
  a77 := Tryd.isAgg114
  z77 := Tryd.sizeOf114
  v77 := Tryd.zeroValue114 }
def LaySfQ_ren : Go.Shelf.Ren := ⟨fun | 6 => 51 | 15 => 69 | 14 => 68 | 28 => 86 | 29 => 87 | 20 => 78 | 21 => 79 | 22 => 80 | 23 => 81 | 24 => 82 | 25 => 83 | 26 => 84 | 27 => 85 | 46 => 94 | 47 => 95 | 48 => 96 | 49 => 97 | 50 => 98 | 57 => 104 | n => n, fun | 22 => 46 | 24 => 48 | 25 => 55 | 3 => 3 | 39 => 76 | 0 => 0 | 53 => 93 | 55 => 95 | 4 => 4 | 46 => 87 | 45 => 86 | 50 => 32 | 5 => 5 | 9 => 9 | 66 => 98 | 70 => 102 | 76 => 113 | 77 => 114 | n => n, fun | n => n⟩
theorem LaySfQ : Go.Proofs.SlLaysF0.n6 Tryd.prog LaySfQ_ren := {
  mixed := by kernel_rfl
  f6 := ⟨Tryd.f51.name, by decide, Tryd.func51.trans (congrArg some (by kernel_rfl))⟩
  f14 := ⟨Tryd.f68.name, by decide, Tryd.func68.trans (congrArg some (by kernel_rfl))⟩
  f15 := Tryd.func69.trans (congrArg some (by kernel_rfl))
  f20 := ⟨Tryd.f78.name, by decide, Tryd.func78.trans (congrArg some (by kernel_rfl))⟩
  f21 := ⟨Tryd.f79.name, by decide, Tryd.func79.trans (congrArg some (by kernel_rfl))⟩
  f22 := ⟨Tryd.f80.name, by decide, Tryd.func80.trans (congrArg some (by kernel_rfl))⟩
  f23 := ⟨Tryd.f81.name, by decide, Tryd.func81.trans (congrArg some (by kernel_rfl))⟩
  f24 := ⟨Tryd.f82.name, by decide, Tryd.func82.trans (congrArg some (by kernel_rfl))⟩
  f25 := ⟨Tryd.f83.name, by decide, Tryd.func83.trans (congrArg some (by kernel_rfl))⟩
  f26 := ⟨Tryd.f84.name, by decide, Tryd.func84.trans (congrArg some (by kernel_rfl))⟩
  f27 := ⟨Tryd.f85.name, by decide, Tryd.func85.trans (congrArg some (by kernel_rfl))⟩
  f28 := Tryd.func86.trans (congrArg some (by kernel_rfl))
  f29 := Tryd.func87.trans (congrArg some (by kernel_rfl))
  f46 := ⟨Tryd.f94.name, by decide, Tryd.func94.trans (congrArg some (by kernel_rfl))⟩
  f47 := Tryd.func95.trans (congrArg some (by kernel_rfl))
  f48 := Tryd.func96.trans (congrArg some (by kernel_rfl))
  f49 := ⟨Tryd.f97.name, by decide, Tryd.func97.trans (congrArg some (by kernel_rfl))⟩
  f50 := ⟨Tryd.f98.name, by decide, Tryd.func98.trans (congrArg some (by kernel_rfl))⟩
  f57 := ⟨Tryd.f104.name, by decide, Tryd.func104.trans (congrArg some (by kernel_rfl))⟩
  t0 := Tryd.underlying0
  a0 := Tryd.isAgg0
  z0 := Tryd.sizeOf0
  v0 := Tryd.zeroValue0
  t3 := Tryd.underlying3
  a3 := Tryd.isAgg3
  z3 := Tryd.sizeOf3
  v3 := Tryd.zeroValue3
  t4 := Tryd.underlying4
  a4 := Tryd.isAgg4
  z4 := Tryd.sizeOf4
  v4 := Tryd.zeroValue4
  t5 := Tryd.underlying5
  a5 := Tryd.isAgg5
  z5 := Tryd.sizeOf5
  v5 := Tryd.zeroValue5
  t9 := Tryd.underlying9
  a9 := Tryd.isAgg9
  z9 := Tryd.sizeOf9
  v9 := Tryd.zeroValue9
  t22 := Tryd.underlying46
  a22 := Tryd.isAgg46
  z22 := Tryd.sizeOf46
  v22 := Tryd.zeroValue46
  t25 := Tryd.underlying55
  a25 := Tryd.isAgg55
  z25 := Tryd.sizeOf55
  v25 := Tryd.zeroValue55
  t39 := Tryd.underlying76
  a39 := Tryd.isAgg76
  z39 := Tryd.sizeOf76
  v39 := Tryd.zeroValue76
  t45 := Tryd.underlying86
  a45 := Tryd.isAgg86
  z45 := Tryd.sizeOf86
  v45 := Tryd.zeroValue86
  t46 := Tryd.underlying87
  a46 := Tryd.isAgg87
  z46 := Tryd.sizeOf87
  v46 := Tryd.zeroValue87
  t50 := Tryd.underlying32
  a50 := Tryd.isAgg32
  z50 := Tryd.sizeOf32
  v50 := Tryd.zeroValue32
  t53 := Tryd.underlying93
  a53 := Tryd.isAgg93
  z53 := Tryd.sizeOf93
  v53 := Tryd.zeroValue93
  t55 := Tryd.underlying95
  a55 := Tryd.isAgg95
  z55 := Tryd.sizeOf95
  v55 := Tryd.zeroValue95
  t66 := Tryd.underlying98
  a66 := Tryd.isAgg98
  z66 := Tryd.sizeOf98
  v66 := Tryd.zeroValue98
  t70 := Tryd.underlying102
  a70 := Tryd.isAgg102
  z70 := Tryd.sizeOf102
  v70 := Tryd.zeroValue102
  t76 := Tryd.underlying113
  a76 := Tryd.isAgg113
  z76 := Tryd.sizeOf113
  v76 := Tryd.zeroValue113
  t77 := Tryd.underlying114
  a77 := Tryd.isAgg114
  z77 := Tryd.sizeOf114
  v77 := Tryd.zeroValue114 }
namespace Aux7
theorem w64 {x : Int} (h0 : -9223372036854775808 ≤ x) (h1 : x ≤ 9223372036854775807) : wrap64 x = x := by unfold wrap64; omega
theorem up64 {i n : Nat} (h : i < n) (hn : n ≤ 4611686018427387904) : wrap64 ((i : Int) + 1) = ((i + 1 : Nat) : Int) := by rw [w64 (by omega) (by omega)]; omega
theorem rd_lt {xs : List Int} {i : Nat} (h : i < xs.length) : rd xs (i : Int) = xs[i] := by unfold rd; simp [List.getD_eq_getElem?_getD, h]
theorem wraps_i64' (n : Int) (h0 : 0 ≤ n) (h1 : n < 2 ^ 16) : IntKind.i64.wrap n = n := by
  rw [IntKind.wrap_i64]; simp at h1; omega
theorem wraps_u16' (n : Int) (h0 : 0 ≤ n) (h1 : n < 2 ^ 16) : IntKind.u16.wrap n = n := by
  rw [IntKind.wrap_u16]; simp at h1; omega
theorem or_i64 (a b : Nat) (ha : a < 65536) (hb : b < 65536) : Go.bits .or .i64 a b = ((a ||| b : Nat) : Int) := (bits_nat .i64 16 (by decide) wraps_i64' a b ha hb).2
theorem or_u16 (a b : Nat) (ha : a < 65536) (hb : b < 65536) : Go.bits .or .u16 a b = ((a ||| b : Nat) : Int) := (bits_nat .u16 16 (by decide) wraps_u16' a b ha hb).2
theorem and_i64 (a b : Nat) (ha : a < 65536) (hb : b < 65536) : Go.bits .and .i64 a b = ((a &&& b : Nat) : Int) := (bits_nat .i64 16 (by decide) wraps_i64' a b ha hb).1
theorem and_u16 (a b : Nat) (ha : a < 65536) (hb : b < 65536) : Go.bits .and .u16 a b = ((a &&& b : Nat) : Int) := (bits_nat .u16 16 (by decide) wraps_u16' a b ha hb).1
theorem pow_lt16 (y : Nat) (hy : y < 16) : (2 ^ y : Nat) < 65536 := Nat.pow_lt_pow_right (by decide) hy
theorem shl_i64 (y : Nat) (hy : y < 16) : shl .i64 1 (y : Int) = ((2 ^ y : Nat) : Int) := by
  unfold shl
  rw [show (y : Int).toNat = y from rfl, Nat.min_eq_left (by simp only [IntKind.bits]; omega), Int.one_mul, wraps_i64']
  · simp
  · exact Int.le_of_lt (Int.pow_pos (by decide))
  · exact_mod_cast Nat.pow_lt_pow_right (by decide) hy
theorem shl_u16 (y : Nat) (hy : y < 16) : shl .u16 1 (y : Int) = ((2 ^ y : Nat) : Int) := by
  unfold shl
  rw [show (y : Int).toNat = y from rfl, Nat.min_eq_left (by simp only [IntKind.bits]; omega), Int.one_mul, wraps_u16']
  · simp
  · exact Int.le_of_lt (Int.pow_pos (by decide))
  · exact_mod_cast Nat.pow_lt_pow_right (by decide) hy
/-- The set of these wires. -/
def setN (l : List Int) : Nat := l.foldl (fun n x => n ||| 2 ^ x.toNat) 0
theorem setN_go (l : List Int) (hl : ∀ x ∈ l, 0 ≤ x ∧ x ≤ 9) : ∀ n, n < 1024 → l.foldl (fun n x => n ||| 2 ^ x.toNat) n < 1024 := by
  induction l with
  | nil => intro n hn; exact hn
  | cons x l ih =>
    intro n hn
    refine ih (fun y hy => hl y (List.mem_cons_of_mem _ hy)) _ ?_
    have := hl x List.mem_cons_self
    exact Nat.or_lt_two_pow (n := 10) hn (Nat.pow_lt_pow_right (by decide) (by omega))
theorem setN_lt (l : List Int) (hl : ∀ x ∈ l, 0 ≤ x ∧ x ≤ 9) : setN l < 1024 := setN_go l hl 0 (by decide)
theorem setN_take (l : List Int) (i : Nat) (h : i < l.length) : (l.take (i + 1)).foldl (fun n x => n ||| 2 ^ x.toNat) 0 = setN (l.take i) ||| 2 ^ (l[i]).toNat := by
  rw [List.take_succ_eq_append_getElem h, List.foldl_append]
  rfl
/-- All rising lists of so many wires, from a wire on, in order. -/
def lst (w : Nat) : Nat → Nat → List (List Int)
  | 0, _ => [[]]
  | m + 1, f => (List.range' f (w - f)).flatMap fun x => (lst w m (x + 1)).map (fun t => (x : Int) :: t)
/-- A list that rises, from a number on, below a bound. -/
def Up (w : Int) : Int → List Int → Prop
  | _, [] => True
  | f, x :: t => f ≤ x ∧ x < w ∧ Up w (x + 1) t
theorem mem_lst (w : Nat) : ∀ (m f : Nat) (t : List Int), t ∈ lst w m f ↔ t.length = m ∧ Up w f t
  | 0, f, t => by
    cases t with
    | nil => simp [lst, Up]
    | cons x t => simp [lst]
  | m + 1, f, t => by
    simp only [lst, List.mem_flatMap, List.mem_range'_1, List.mem_map]
    constructor
    · rintro ⟨x, hx, u, hu, rfl⟩
      obtain ⟨h1, h2⟩ := (mem_lst w m (x + 1) u).1 hu
      refine ⟨by simp [h1], by omega, by omega, ?_⟩
      exact h2
    · cases t with
      | nil => rintro ⟨h, _⟩; simp at h
      | cons x t =>
        rintro ⟨h, h1, h2, h3⟩
        refine ⟨x.toNat, by omega, t, (mem_lst w m _ t).2 ⟨by simpa using h, ?_⟩, by rw [Int.toNat_of_nonneg (by omega)]⟩
        rw [show ((x.toNat + 1 : Nat) : Int) = x + 1 by omega]
        exact h3
/-- The order of lists, number by number. -/
def lexlt : List Int → List Int → Bool
  | [], [] => false
  | [], _ :: _ => true
  | _ :: _, [] => false
  | x :: s, y :: t => if x < y then true else if y < x then false else lexlt s t
theorem lexlt_cons (x : Int) (s t : List Int) : lexlt (x :: s) (x :: t) = lexlt s t := by simp [lexlt]
theorem lst_sorted (w : Nat) : ∀ (m f : Nat), (lst w m f).Pairwise fun s t => lexlt s t = true
  | 0, f => by simp [lst]
  | m + 1, f => by
    simp only [lst, List.pairwise_flatMap]
    refine ⟨fun x _ => ?_, ?_⟩
    · rw [List.pairwise_map]
      refine (lst_sorted w m (x + 1)).imp ?_
      intro s t h
      rw [lexlt_cons]; exact h
    · refine List.Pairwise.imp ?_ (List.pairwise_lt_range' (s := f) (n := w - f) (step := 1))
      intro x y hxy s hs t ht
      obtain ⟨s, _, rfl⟩ := List.mem_map.1 hs
      obtain ⟨t, _, rfl⟩ := List.mem_map.1 ht
      simp only [lexlt]
      rw [if_pos (by omega)]
theorem lexlt_irrefl : ∀ s, lexlt s s = false
  | [] => rfl
  | x :: s => by rw [lexlt_cons]; exact lexlt_irrefl s
/-- All rising lists of at most so many wires, in order. -/
def alls (w m : Nat) : List (List Int) := (List.range (m + 1)).flatMap fun c => lst w c 0
theorem mem_alls (w m : Nat) (t : List Int) : t ∈ alls w m ↔ t.length ≤ m ∧ Up w 0 t := by
  unfold alls
  simp only [List.mem_flatMap, List.mem_range, mem_lst]
  constructor
  · rintro ⟨c, hc, h1, h2⟩; exact ⟨by omega, h2⟩
  · rintro ⟨h1, h2⟩; exact ⟨_, by omega, rfl, h2⟩
/-- Lists by how many numbers, then number by number. -/
def setlt (s t : List Int) : Bool := decide (s.length < t.length) || (decide (s.length = t.length) && lexlt s t)
theorem alls_sorted (w m : Nat) : (alls w m).Pairwise fun s t => setlt s t = true := by
  unfold alls
  rw [List.pairwise_flatMap]
  refine ⟨fun c _ => ?_, ?_⟩
  · refine List.Pairwise.imp_of_mem ?_ (lst_sorted w c 0)
    intro s t hs ht h
    have h1 := ((mem_lst w c 0 s).1 hs).1
    have h2 := ((mem_lst w c 0 t).1 ht).1
    simp [setlt, h1, h2, h]
  · refine List.Pairwise.imp ?_ (List.pairwise_lt_range (n := m + 1))
    intro x y hxy s hs t ht
    have h1 := ((mem_lst w x 0 s).1 hs).1
    have h2 := ((mem_lst w y 0 t).1 ht).1
    simp [setlt, h1, h2, hxy]
theorem alls_nodup (w m : Nat) : (alls w m).Nodup := by
  refine (alls_sorted w m).imp ?_
  intro s t h e
  subst e
  simp [setlt, lexlt_irrefl] at h
/-- Two lists that rise and hold the same numbers are the same. -/
theorem Up.lt {w : Int} : ∀ {f : Int} {t : List Int}, Up w f t → ∀ x ∈ t, f ≤ x ∧ x < w
  | _, [], _ => by simp
  | f, y :: t, h => by
    intro x hx
    rcases List.mem_cons.1 hx with rfl | hx
    · exact ⟨h.1, h.2.1⟩
    · have := Up.lt h.2.2 x hx
      have := h.1
      omega
theorem Up.ext {w : Int} : ∀ {f : Int} {s t : List Int}, Up w f s → Up w f t → (∀ x, x ∈ s ↔ x ∈ t) → s = t
  | _, [], [], _, _, _ => rfl
  | _, [], y :: t, _, _, h => by have := (h y).2 (by simp); simp at this
  | _, x :: s, [], _, _, h => by have := (h x).1 (by simp); simp at this
  | f, x :: s, y :: t, hs, ht, h => by
    have e : x = y := by
      have h1 := (h x).1 (by simp)
      have h2 := (h y).2 (by simp)
      rcases List.mem_cons.1 h1 with e | h1
      · exact e
      rcases List.mem_cons.1 h2 with e | h2
      · exact e.symm
      have := (Up.lt ht.2.2 x h1).1
      have := (Up.lt hs.2.2 y h2).1
      omega
    subst e
    rw [Up.ext hs.2.2 ht.2.2 ?_]
    intro z
    have hz := h z
    simp only [List.mem_cons] at hz
    constructor
    · intro hm
      rcases hz.1 (.inr hm) with e | e
      · have := (Up.lt hs.2.2 z hm).1; omega
      · exact e
    · intro hm
      rcases hz.2 (.inr hm) with e | e
      · have := (Up.lt ht.2.2 z hm).1; omega
      · exact e
/-- The numbers of the bits of a set. -/
def bitsOf (s : Nat) : List Int := ((List.range 16).filter fun i => s.testBit i).map fun (i : Nat) => (i : Int)
theorem mem_bitsOf (s : Nat) (x : Int) : x ∈ bitsOf s ↔ 0 ≤ x ∧ x < 16 ∧ s.testBit x.toNat = true := by
  unfold bitsOf
  simp only [List.mem_map, List.mem_filter, List.mem_range]
  constructor
  · rintro ⟨i, ⟨h1, h2⟩, rfl⟩
    exact ⟨by omega, by omega, by simpa using h2⟩
  · rintro ⟨h0, h1, h2⟩
    exact ⟨x.toNat, ⟨by omega, h2⟩, by omega⟩
theorem up_map (w : Int) : ∀ (l : List Nat) (f : Nat), l.Pairwise (· < ·) → (∀ x ∈ l, f ≤ x ∧ (x : Int) < w) → Up w f (l.map fun (i : Nat) => (i : Int))
  | [], _, _, _ => trivial
  | x :: l, f, hp, hb => by
    obtain ⟨h1, h2⟩ := List.pairwise_cons.1 hp
    have hx := hb x (by simp)
    refine ⟨by simpa using hx.1, hx.2, ?_⟩
    have := up_map w l (x + 1) h2 (fun y hy => ⟨h1 y hy, (hb y (by simp [hy])).2⟩)
    simpa using this
theorem bitsOf_up (s w : Nat) (hs : s < 2 ^ w) (hw : w ≤ 16) : Up (w : Int) 0 (bitsOf s) := by
  have := up_map (w : Int) ((List.range 16).filter fun i => s.testBit i) 0 (List.pairwise_lt_range.filter _) ?_
  · exact this
  · intro x hx
    simp only [List.mem_filter, List.mem_range] at hx
    refine ⟨Nat.zero_le _, ?_⟩
    have hx2 := Nat.ge_two_pow_of_testBit hx.2
    have : 2 ^ x < 2 ^ w := by omega
    have := (Nat.pow_lt_pow_iff_right (by decide : 1 < 2)).1 this
    omega
theorem testBit_fold : ∀ (l : List Int) (n i : Nat), (∀ x ∈ l, 0 ≤ x) → ((l.foldl (fun n x => n ||| 2 ^ x.toNat) n).testBit i = true ↔ n.testBit i = true ∨ (i : Int) ∈ l)
  | [], n, i, _ => by simp
  | x :: l, n, i, h => by
    rw [List.foldl_cons, testBit_fold l _ i (fun y hy => h y (by simp [hy])), Nat.testBit_or, Nat.testBit_two_pow]
    have := h x (by simp)
    simp only [Bool.or_eq_true, decide_eq_true_eq, List.mem_cons]
    constructor
    · rintro ((h | h) | h)
      · exact .inl h
      · exact .inr (.inl (by omega))
      · exact .inr (.inr h)
    · rintro (h | h | h)
      · exact .inl (.inl h)
      · exact .inl (.inr (by omega))
      · exact .inr h
theorem testBit_setN (l : List Int) (h : ∀ x ∈ l, 0 ≤ x) (i : Nat) : (setN l).testBit i = true ↔ (i : Int) ∈ l := by
  unfold setN
  rw [testBit_fold l 0 i h]
  simp
theorem bitsOf_setN (l : List Int) (h : Up 16 0 l) : bitsOf (setN l) = l := by
  have hl : ∀ x ∈ l, 0 ≤ x := fun x hx => (Up.lt h x hx).1
  have hb : setN l < 2 ^ 16 := by
    apply Nat.lt_pow_two_of_testBit
    intro i hi
    cases hq : (setN l).testBit i with
    | false => rfl
    | true => have := (Up.lt h _ ((testBit_setN l hl i).1 hq)).2; omega
  refine Up.ext (bitsOf_up _ 16 hb (by omega)) h ?_
  intro x
  rw [mem_bitsOf]
  constructor
  · rintro ⟨h0, h1, h2⟩
    have := (testBit_setN l hl _).1 h2
    rwa [Int.toNat_of_nonneg h0] at this
  · intro hx
    have hx' := Up.lt h x hx
    exact ⟨hx'.1, hx'.2, (testBit_setN l hl _).2 (by rwa [Int.toNat_of_nonneg hx'.1])⟩
theorem setN_bitsOf (s : Nat) (hs : s < 2 ^ 16) : setN (bitsOf s) = s := by
  apply Nat.eq_of_testBit_eq
  intro i
  have hl : ∀ x ∈ bitsOf s, 0 ≤ x := fun x hx => ((mem_bitsOf s x).1 hx).1
  have e := testBit_setN (bitsOf s) hl i
  rw [mem_bitsOf] at e
  cases hq : s.testBit i with
  | true =>
    refine e.2 ⟨by omega, ?_, by simpa using hq⟩
    have hx2 := Nat.ge_two_pow_of_testBit hq
    have : 2 ^ i < 2 ^ 16 := by omega
    have := (Nat.pow_lt_pow_iff_right (by decide : 1 < 2)).1 this
    omega
  | false =>
    cases hr : (setN (bitsOf s)).testBit i with
    | false => rfl
    | true => have := (e.1 hr).2.2; rw [show ((i : Nat) : Int).toNat = i from rfl, hq] at this; cases this
theorem Up.mono {w v : Int} (hv : w ≤ v) : ∀ {f : Int} {t : List Int}, Up w f t → Up v f t
  | _, [], _ => trivial
  | _, _ :: _, h => ⟨h.1, by have := h.2.1; omega, Up.mono hv h.2.2⟩
theorem setN_inj {s t : List Int} (hs : Up 16 0 s) (ht : Up 16 0 t) (e : setN s = setN t) : s = t := by rw [← bitsOf_setN s hs, ← bitsOf_setN t ht, e]
theorem setN_up_lt (w : Nat) (hw : w ≤ 16) {l : List Int} (h : Up w 0 l) : setN l < 2 ^ w := by
  have hl : ∀ x ∈ l, 0 ≤ x := fun x hx => (Up.lt h x hx).1
  apply Nat.lt_pow_two_of_testBit
  intro i hi
  cases hq : (setN l).testBit i with
  | false => rfl
  | true => have := (Up.lt h _ ((testBit_setN l hl i).1 hq)).2; omega
/-- The sets of at most so many wires, as numbers. -/
def sets (w m : Nat) : List Nat := (List.range (2 ^ w)).filter fun s => decide ((bitsOf s).length ≤ m)
theorem mem_sets (w m s : Nat) (hw : w ≤ 16) : s ∈ sets w m ↔ s ∈ (alls w m).map setN := by
  unfold sets
  simp only [List.mem_filter, List.mem_range, List.mem_map, mem_alls, decide_eq_true_eq]
  constructor
  · rintro ⟨h1, h2⟩
    exact ⟨bitsOf s, ⟨h2, bitsOf_up s w h1 hw⟩, setN_bitsOf s (Nat.lt_of_lt_of_le h1 (Nat.pow_le_pow_right (by decide) hw))⟩
  · rintro ⟨t, ⟨h1, h2⟩, rfl⟩
    exact ⟨setN_up_lt w hw h2, by rw [bitsOf_setN t (h2.mono (by omega))]; exact h1⟩
theorem sets_nodup (w m : Nat) : (sets w m).Nodup := List.Pairwise.filter _ List.nodup_range
theorem alls_sets_nodup (w m : Nat) (hw : w ≤ 16) : ((alls w m).map setN).Nodup := by
  unfold List.Nodup
  rw [List.pairwise_map]
  refine List.Pairwise.imp_of_mem ?_ (alls_nodup w m)
  intro s t hs ht h e
  have h1 := ((mem_alls w m s).1 hs).2
  have h2 := ((mem_alls w m t).1 ht).2
  exact h (setN_inj (h1.mono (by omega)) (h2.mono (by omega)) e)
theorem sets_perm (w m : Nat) (hw : w ≤ 16) : (sets w m).Perm ((alls w m).map setN) :=
  (List.perm_ext_iff_of_nodup (sets_nodup w m) (alls_sets_nodup w m hw)).2 fun s => mem_sets w m s hw
theorem shr_u16 (s i : Nat) (hi : i < 16) : shr .u16 (s : Int) (i : Int) = ((s / 2 ^ i : Nat) : Int) := by
  unfold shr
  rw [show (i : Int).toNat = i from rfl, Nat.min_eq_left (by simp only [IntKind.bits]; omega)]
  simp
theorem bit_test (s i : Nat) (hs : s < 65536) (hi : i < 16) : (Go.bits .and .u16 (shr .u16 (s : Int) (i : Int)) 1 = 1) ↔ s.testBit i = true := by
  have hd : s / 2 ^ i < 65536 := Nat.lt_of_le_of_lt (Nat.div_le_self _ _) hs
  rw [shr_u16 s i hi, show (1 : Int) = ((1 : Nat) : Int) from rfl, and_u16 _ _ hd (by omega), Nat.testBit_eq_decide_div_mod_eq, decide_eq_true_eq, Nat.and_one_is_mod]
  omega
theorem listed_l0 (s : Nat) (hs : s < 65536) : ∀ (d i k : Nat), i + d = 16 → d < k → impl_listed.l0 k (s : Int) (((List.range i).filter fun i => s.testBit i).map fun (i : Nat) => (i : Int)) (i : Int) = some (bitsOf s)
  | 0, i, k, hi, hk => by
    obtain ⟨k, rfl⟩ : ∃ q, k = q + 1 := ⟨k - 1, by omega⟩
    simp only [impl_listed.l0]
    rw [if_neg (by omega), show i = 16 by omega]
    rfl
  | d + 1, i, k, hi, hk => by
    obtain ⟨k, rfl⟩ : ∃ q, k = q + 1 := ⟨k - 1, by omega⟩
    have ih := listed_l0 s hs d (i + 1) k (by omega) (by omega)
    rw [List.range_succ, List.filter_append, List.map_append] at ih
    have hl : (((List.range i).filter fun i => s.testBit i).map fun (i : Nat) => (i : Int)).length ≤ 16 := by
      rw [List.length_map]
      exact Nat.le_trans (List.length_filter_le _ _) (by simp; omega)
    simp only [impl_listed.l0]
    rw [if_pos (by omega), if_pos (by omega), show wrap64 ((i : Int) + 1) = ((i + 1 : Nat) : Int) by rw [w64 (by omega) (by omega)]; omega]
    by_cases hb : s.testBit i = true
    · rw [if_pos ((bit_test s i hs (by omega)).2 hb), if_pos (by omega), ← ih]
      simp [hb]
    · rw [if_neg (fun h => hb ((bit_test s i hs (by omega)).1 h)), ← ih]
      simp [Bool.eq_false_iff.mpr hb]
theorem listed_f (s : Nat) (hs : s < 65536) {k : Nat} (hk : 17 ≤ k) : impl_listed.f k (s : Int) = some (bitsOf s) := listed_l0 s hs 16 0 k (by omega) (by omega)
/-- How two lists compare. -/
def cmpL : List Int → List Int → Int
  | [], [] => 0
  | [], _ :: _ => -1
  | _ :: _, [] => 1
  | x :: s, y :: t => if x < y then -1 else if x > y then 1 else cmpL s t
theorem cmpInt_f (x y : Int) : cmp_Compare_int.f x y = some (if x < y then -1 else if x > y then 1 else 0) := by
  unfold cmp_Compare_int.f cmp_isNaN_int.f
  simp only [bne_self_eq_false, Option.bind_some, Bool.false_eq_true, if_false]
  split
  · rfl
  · split <;> rfl
theorem compare_l0 (a b : List Int) (ha : a.length ≤ 1000) (hb : b.length ≤ 1000) : ∀ (d i k : Nat), i + d = a.length → d < k → i ≤ b.length → slices_Compare_int_int.l0 k a b a (a.length : Int) (i : Int) = some (cmpL (a.drop i) (b.drop i))
  | 0, i, k, hi, hk, hib => by
    obtain ⟨k, rfl⟩ : ∃ q, k = q + 1 := ⟨k - 1, by omega⟩
    simp only [slices_Compare_int_int.l0]
    rw [if_neg (by omega), List.drop_eq_nil_of_le (show a.length ≤ i by omega)]
    by_cases h : a.length < b.length
    · rw [if_pos (by omega), List.drop_eq_getElem_cons (show i < b.length by omega)]
      rfl
    · rw [if_neg (by omega), List.drop_eq_nil_of_le (show b.length ≤ i by omega)]
      rfl
  | d + 1, i, k, hi, hk, hib => by
    obtain ⟨k, rfl⟩ : ∃ q, k = q + 1 := ⟨k - 1, by omega⟩
    have hia : i < a.length := by omega
    simp only [slices_Compare_int_int.l0]
    rw [if_pos (by omega), if_pos (by omega), if_pos (by omega), List.drop_eq_getElem_cons hia]
    by_cases h : i < b.length
    · have ih := compare_l0 a b ha hb d (i + 1) k (by omega) (by omega) (by omega)
      rw [if_neg (by omega), if_pos (by omega), rd_lt hia, rd_lt h, cmpInt_f, Option.bind_some, up64 hia (by omega), ih, List.drop_eq_getElem_cons h]
      simp only [cmpL]
      by_cases h1 : a[i] < b[i]
      · rw [if_pos h1, if_pos h1, if_neg (by decide)]
      · rw [if_neg h1, if_neg h1]
        by_cases h2 : a[i] > b[i]
        · rw [if_pos h2, if_pos h2, if_neg (by decide)]
        · rw [if_neg h2, if_neg h2, if_pos rfl]
    · rw [if_pos (by omega), List.drop_eq_nil_of_le (show b.length ≤ i by omega)]
      rfl
theorem compare_f (a b : List Int) (ha : a.length ≤ 1000) (hb : b.length ≤ 1000) {k : Nat} (hk : a.length < k) : slices_Compare_int_int.f k a b = some (cmpL a b) := by
  have h := compare_l0 a b ha hb a.length 0 k (by omega) hk (by omega)
  rw [List.drop_zero, List.drop_zero] at h
  exact h
/-- How many bits are set, as the library counts. -/
def oc (s : Nat) : Nat := Lib.onesCount (s / 256) + Lib.onesCount (s % 256)
theorem bits_len (s : Nat) : (bitsOf s).length ≤ 16 := by
  unfold bitsOf
  rw [List.length_map]
  exact Nat.le_trans (List.length_filter_le _ _) (by simp)
def cfS (s t : Nat) : Int := if (oc s : Int) - (oc t : Int) = 0 then cmpL (bitsOf s) (bitsOf t) else (oc s : Int) - (oc t : Int)
theorem ocf (s : Nat) (hs : s < 65536) : bits_OnesCount16.f (s : Int) = some ((oc s : Nat) : Int) := by
  unfold bits_OnesCount16.f oc
  rw [if_pos (by omega)]
  rfl
theorem cfS_f (s t : Nat) (hs : s < 65536) (ht : t < 65536) (h1 : oc s ≤ 1000) (h2 : oc t ≤ 1000) {k : Nat} (hk : 30 ≤ k) : impl_compareSets.f k (s : Int) (t : Int) = some (cfS s t) := by
  have l1 := bits_len s
  have l2 := bits_len t
  unfold impl_compareSets.f cfS
  rw [ocf s hs, Option.bind_some, ocf t ht, Option.bind_some, w64 (by omega) (by omega)]
  by_cases h : (oc s : Int) - (oc t : Int) = 0
  · rw [if_pos h, if_pos h, listed_f s hs (by omega), Option.bind_some, listed_f t ht (by omega), Option.bind_some, compare_f _ _ (by omega) (by omega) (by omega)]
    rfl
  · rw [if_neg h, if_neg h]
theorem cmpL_lt : ∀ a b : List Int, cmpL a b < 0 ↔ lexlt a b = true
  | [], [] => by simp [cmpL, lexlt]
  | [], _ :: _ => by simp [cmpL, lexlt]
  | _ :: _, [] => by simp [cmpL, lexlt]
  | x :: s, y :: t => by
    have ih := cmpL_lt s t
    simp only [cmpL, lexlt]
    by_cases h1 : x < y
    · simp [h1]
    · by_cases h2 : y < x
      · rw [if_neg h1, if_pos (show x > y from h2), if_neg h1, if_pos h2]; simp
      · rw [if_neg h1, if_neg (show ¬ x > y from h2), if_neg h1, if_neg h2]; exact ih
theorem lex_trans : ∀ a b c : List Int, lexlt a b = true → lexlt b c = true → lexlt a c = true
  | [], [], _, h, _ => by simp [lexlt] at h
  | [], _ :: _, [], _, h => by simp [lexlt] at h
  | [], _ :: _, _ :: _, _, _ => rfl
  | _ :: _, [], _, h, _ => by simp [lexlt] at h
  | _ :: _, _ :: _, [], _, h => by simp [lexlt] at h
  | x :: a, y :: b, z :: c, h1, h2 => by
    have ih := lex_trans a b c
    simp only [lexlt] at h1 h2 ⊢
    by_cases xy : x < y
    · by_cases yz : y < z
      · rw [if_pos (by omega)]
      · rw [if_neg yz] at h2
        by_cases zy : z < y
        · rw [if_pos zy] at h2; cases h2
        · rw [if_pos (by omega)]
    · rw [if_neg xy] at h1
      by_cases yx : y < x
      · rw [if_pos yx] at h1; cases h1
      · rw [if_neg yx] at h1
        by_cases yz : y < z
        · rw [if_pos (by omega)]
        · rw [if_neg yz] at h2
          by_cases zy : z < y
          · rw [if_pos zy] at h2; cases h2
          · rw [if_neg zy] at h2
            rw [if_neg (by omega), if_neg (by omega)]
            exact ih h1 h2
theorem lex_total : ∀ a b : List Int, a = b ∨ lexlt a b = true ∨ lexlt b a = true
  | [], [] => .inl rfl
  | [], _ :: _ => .inr (.inl rfl)
  | _ :: _, [] => .inr (.inr rfl)
  | x :: a, y :: b => by
    simp only [lexlt]
    by_cases xy : x < y
    · exact .inr (.inl (by rw [if_pos xy]))
    · by_cases yx : y < x
      · exact .inr (.inr (by rw [if_pos yx]))
      · rw [if_neg xy, if_neg yx, if_neg yx, if_neg xy]
        have e : x = y := by omega
        subst e
        rcases lex_total a b with h | h | h
        · exact .inl (by rw [h])
        · exact .inr (.inl h)
        · exact .inr (.inr h)
theorem cfS_lt (s t : Nat) : cfS s t < 0 ↔ (oc s < oc t ∨ (oc s = oc t ∧ lexlt (bitsOf s) (bitsOf t) = true)) := by
  unfold cfS
  by_cases h : (oc s : Int) - (oc t : Int) = 0
  · rw [if_pos h, cmpL_lt]
    constructor
    · intro h2; exact .inr ⟨by omega, h2⟩
    · rintro (h2 | h2)
      · omega
      · exact h2.2
  · rw [if_neg h]
    constructor
    · intro h2; exact .inl (by omega)
    · rintro (h2 | h2) <;> omega
theorem pop_le : ∀ n x : Nat, Lib.popAux n x ≤ n
  | 0, _ => Nat.le_refl _
  | n + 1, x => by
    have := pop_le n (x / 2)
    have : x % 2 < 2 := Nat.mod_lt _ (by decide)
    simp only [Lib.popAux]
    omega
theorem oc_le (s : Nat) : oc s ≤ 1000 := by
  have h1 := pop_le 64 (s / 256)
  have h2 := pop_le 64 (s % 256)
  unfold oc Lib.onesCount
  omega
end Aux7
/-- A set as a number below 65536. -/
def slices_SortFunc_uint16_uint16.fin (n : Int) : Fin 65536 := ⟨n.toNat % 65536, Nat.mod_lt _ (by decide)⟩
def slices_SortFunc_uint16_uint16.enc (x : Fin 65536) : Value := .int .u16 (x.val : Int)
theorem slices_SortFunc_uint16_uint16.enc1 : ∀ x, (slices_SortFunc_uint16_uint16.enc x).oneCell' = true := fun _ => rfl
def slices_SortFunc_uint16_uint16.cf (x y : Fin 65536) : Int := Aux7.cfS x.val y.val
theorem slices_SortFunc_uint16_uint16.lt_iff (x y : Fin 65536) : ltOf slices_SortFunc_uint16_uint16.cf x y = true ↔ (Aux7.oc x.val < Aux7.oc y.val ∨ (Aux7.oc x.val = Aux7.oc y.val ∧ Aux7.lexlt (Aux7.bitsOf x.val) (Aux7.bitsOf y.val) = true)) := by
  unfold ltOf slices_SortFunc_uint16_uint16.cf
  rw [decide_eq_true_eq, Aux7.cfS_lt]
theorem slices_SortFunc_uint16_uint16.nlt_iff (x y : Fin 65536) : ltOf slices_SortFunc_uint16_uint16.cf x y = false ↔ ¬ (Aux7.oc x.val < Aux7.oc y.val ∨ (Aux7.oc x.val = Aux7.oc y.val ∧ Aux7.lexlt (Aux7.bitsOf x.val) (Aux7.bitsOf y.val) = true)) := by
  rw [← slices_SortFunc_uint16_uint16.lt_iff, Bool.not_eq_true]
theorem slices_SortFunc_uint16_uint16.swo : Go.Sort.SWO (ltOf slices_SortFunc_uint16_uint16.cf) where
  irrefl x := by
    rw [slices_SortFunc_uint16_uint16.nlt_iff, Aux7.lexlt_irrefl]
    simp
  trans x y z h1 h2 := by
    rw [slices_SortFunc_uint16_uint16.lt_iff] at *
    rcases h1 with h1 | ⟨h1, l1⟩ <;> rcases h2 with h2 | ⟨h2, l2⟩
    · exact .inl (by omega)
    · exact .inl (by omega)
    · exact .inl (by omega)
    · exact .inr ⟨by omega, Aux7.lex_trans _ _ _ l1 l2⟩
  ntrans x y z h1 h2 := by
    rw [slices_SortFunc_uint16_uint16.nlt_iff] at *
    rintro (h | ⟨h, l⟩)
    · by_cases e : Aux7.oc x.val < Aux7.oc y.val
      · exact h1 (.inl e)
      · exact h2 (.inl (by omega))
    · have e1 : ¬ Aux7.oc x.val < Aux7.oc y.val := fun e => h1 (.inl e)
      have e2 : ¬ Aux7.oc y.val < Aux7.oc z.val := fun e => h2 (.inl e)
      have e3 : Aux7.oc x.val = Aux7.oc y.val := by omega
      have e4 : Aux7.oc y.val = Aux7.oc z.val := by omega
      rcases Aux7.lex_total (Aux7.bitsOf x.val) (Aux7.bitsOf y.val) with t | t | t
      · exact h2 (.inr ⟨e4, by rw [← t]; exact l⟩)
      · exact h1 (.inr ⟨e3, t⟩)
      · exact h2 (.inr ⟨e4, Aux7.lex_trans _ _ _ t l⟩)
theorem slices_SortFunc_uint16_uint16.tot (x y : Fin 65536) (h1 : ltOf slices_SortFunc_uint16_uint16.cf x y = false) (h2 : ltOf slices_SortFunc_uint16_uint16.cf y x = false) : x = y := by
  rw [slices_SortFunc_uint16_uint16.nlt_iff] at h1 h2
  have e1 : ¬ Aux7.oc x.val < Aux7.oc y.val := fun e => h1 (.inl e)
  have e2 : ¬ Aux7.oc y.val < Aux7.oc x.val := fun e => h2 (.inl e)
  rcases Aux7.lex_total (Aux7.bitsOf x.val) (Aux7.bitsOf y.val) with t | t | t
  · apply Fin.ext
    rw [← Aux7.setN_bitsOf x.val x.isLt, ← Aux7.setN_bitsOf y.val y.isLt, t]
  · exact absurd (.inr ⟨by omega, t⟩) h1
  · exact absurd (.inr ⟨by omega, t⟩) h2
/-- By how many there are, then by the lists. -/
def slices_SortFunc_uint16_uint16.le (x y : Fin 65536) : Bool := !ltOf slices_SortFunc_uint16_uint16.cf y x
def slices_SortFunc_uint16_uint16.f (l0 : List Int) : Option (List Int) := if l0.length ≤ 1000000000 ∧ (∀ x ∈ l0, 0 ≤ x ∧ x < 65536) then some (((l0.map slices_SortFunc_uint16_uint16.fin).mergeSort slices_SortFunc_uint16_uint16.le).map fun x => (x.val : Int)) else none
theorem slices_SortFunc_uint16_uint16.encs_fin (l : List Int) (h : ∀ x ∈ l, 0 ≤ x ∧ x < 65536) : encs slices_SortFunc_uint16_uint16.enc (l.map slices_SortFunc_uint16_uint16.fin) = encs (fun n => Value.int .u16 n) l := by
  unfold encs
  rw [List.map_map]
  apply List.map_congr_left
  intro x hx
  have := h x hx
  show Value.int .u16 ((x.toNat % 65536 : Nat) : Int) = Value.int .u16 x
  congr 1
  omega
theorem slices_SortFunc_uint16_uint16.encs_back (l : List (Fin 65536)) : encs (fun n => Value.int .u16 n) (l.map fun x => (x.val : Int)) = encs slices_SortFunc_uint16_uint16.enc l := by
  unfold encs
  rw [List.map_map]
  rfl
theorem slices_SortFunc_uint16_uint16.calls (P0_ : Nat → Prop) (u : Value) (l0 : List Int) (r : List Int) (w0 w : World) (hB : Below w0.heap.size w0 w) (ho0 : Kd.R (Kd.int .u16) 48 w w0.heap.size P0_ u l0) (h : slices_SortFunc_uint16_uint16.f l0 = some r) :
    Calls Tryd.prog 51 #[u, .func (.func 41) #[] #[]] w fun e w' => e = .returned (.tuple #[]) ∧ Kd.R (Kd.int .u16) 48 w' w0.heap.size (fun k_ => (P0_ k_ ∨ w.heap.size ≤ k_)) u r ∧ Below w0.heap.size w0 w' ∧ Kept w w' (fun k_ => P0_ k_) := by
  unfold slices_SortFunc_uint16_uint16.f at h
  split at h
  case isFalse => cases h
  rename_i hlr
  obtain ⟨hlen, hrange⟩ := hlr
  cases h
  by_cases hz : l0 = []
  · subst hz
    obtain ⟨A, c, rfl⟩ := Kd.R_slice ho0
    refine (AnyF.slices_SortFunc_none LaySfQ A c (.func (.func 41) #[] #[]) w).mono ?_
    rintro e w' ⟨he, rfl⟩
    rw [List.map_nil, List.mergeSort_nil]
    exact ⟨he, Kd.R_mono ho0 (fun k hk => .inl hk), hB, Kept.refl _ _⟩
  have hfin : Kd.R (Kd.scalar slices_SortFunc_uint16_uint16.enc slices_SortFunc_uint16_uint16.enc1) 48 w w0.heap.size P0_ u (l0.map slices_SortFunc_uint16_uint16.fin) := by
    refine Kd.R_of_own ?_ ho0.1
    rw [slices_SortFunc_uint16_uint16.encs_fin l0 hrange, List.length_map]
    exact Kd.own_of_R ho0
  obtain ⟨g, cap, rfl, hg1, hg2, hg3⟩ := Kd.R_form hfin (by rw [List.length_map]; exact List.length_pos_iff.2 hz)
  have eg : ∀ args w, (callFunc 41 args).run Tryd.prog w = .ok (.enter 41 args) w := enters_of Tryd.func41 (by kernel_rfl) rfl
  have hcmp : CmpLays1 Tryd.prog 41 #[] slices_SortFunc_uint16_uint16.enc slices_SortFunc_uint16_uint16.cf g 0 (l0.map slices_SortFunc_uint16_uint16.fin).toArray.size w := fun m os dk hs x y =>
    ((impl_compareSets.callsD 30 (x.val : Int) (y.val : Int) _ (sortWorld slices_SortFunc_uint16_uint16.enc w g 0 m dk os) (Aux7.cfS_f x.val y.val x.isLt y.isLt (Aux7.oc_le _) (Aux7.oc_le _) (Nat.le_refl _))).mono fun e w' h => ⟨h.1, h.2.grow⟩)
  have hcon := Any.slices_SortFunc_total LaySf1 slices_SortFunc_uint16_uint16.enc slices_SortFunc_uint16_uint16.enc1 slices_SortFunc_uint16_uint16.cf slices_SortFunc_uint16_uint16.swo 41 #[] g 0 cap (l0.map slices_SortFunc_uint16_uint16.fin).toArray w eg hcmp (slices_SortFunc_uint16_uint16.holds hfin) hg2 (by simp; omega) slices_SortFunc_uint16_uint16.tot
  change Calls Tryd.prog 51 _ _ _ at hcon
  refine Calls.mono (by simpa using hcon) ?_
  rintro e w' ⟨he, n, os, hw⟩
  obtain ⟨q1, q2, q3⟩ := slices_SortFunc_uint16_uint16.put_row (ys := (l0.map slices_SortFunc_uint16_uint16.fin).mergeSort slices_SortFunc_uint16_uint16.le) hfin (by rw [List.length_mergeSort]) hB w' (by rw [hw]; rfl)
  refine ⟨he, ?_, q2, q3⟩
  refine Kd.R_mono ?_ (fun k hk => Or.inl hk)
  have hl2 : (((l0.map slices_SortFunc_uint16_uint16.fin).mergeSort slices_SortFunc_uint16_uint16.le).map fun x => (x.val : Int)).length = (l0.map slices_SortFunc_uint16_uint16.fin).length := by rw [List.length_map, List.length_mergeSort]
  refine Kd.R_of_own ?_ q1.1
  have hown := Kd.own_of_R q1
  rw [List.length_mergeSort] at hown
  rw [hl2, slices_SortFunc_uint16_uint16.encs_back]
  exact hown


end Go.Proofs.YtbghdbpaihkcjaaDoor.PFnExactBestTest
