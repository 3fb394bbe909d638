-- Written by a program of this claim, over the kit's print: the functions that a law reaches, their plain forms and the walks.
import Derived.Test.YtbghdbpaihkcjabDoorPFnExactParseTestsx0
import Derived.Test.YtbghdbpaihkcjabDoorPFnExactParseTestsx4
import Derived.Test.YtbghdbpaihkcjabDoorPFnExactParseTestsx5
namespace Go.Proofs.YtbghdbpaihkcjabDoor.PFnExactParseTests
open Go.RowKit Go.Proofs.YtbghdbpaihkcjabDoorW.PrintWords Go.Proofs.YtbghdbpaihkcjabDoorW.PrintLast Go.Proofs.YtbghdbpaihkcjabDoorW.PrintMore
attribute [local go_sem] max2_int min2_int max_two min_two max_three min_three max_four min_four   -- for this text's walks alone
set_option linter.unusedVariables false
set_option linter.unusedSimpArgs false

/-! ### impl_numbers: function 41 -/
def LayFields_ren : Go.Shelf.Ren := ⟨fun | 229 => 62 | n => n, fun | 9 => 9 | 40 => 78 | 31 => 55 | 152 => 96 | 3 => 3 | 0 => 0 | 4 => 4 | 21 => 21 | 154 => 98 | n => n, fun | n => n⟩
theorem LayFields : Go.Proofs.Lays.n229 Tryd.prog LayFields_ren := {
  mixed := by kernel_rfl
  f229 := Tryd.func62.trans (congrArg some (by kernel_rfl))
  t0 := Tryd.underlying0
  a0 := Tryd.isAgg0
  z0 := Tryd.sizeOf0
  v0 := Tryd.zeroValue0
  t3 := Tryd.underlying3
  a3 := Tryd.isAgg3
  z3 := Tryd.sizeOf3
  v3 := Tryd.zeroValue3
  t4 := Tryd.underlying4
  a4 := Tryd.isAgg4
  z4 := Tryd.sizeOf4
  v4 := Tryd.zeroValue4
  t9 := Tryd.underlying9
  a9 := Tryd.isAgg9
  z9 := Tryd.sizeOf9
  v9 := Tryd.zeroValue9
  t21 := Tryd.underlying21
  a21 := Tryd.isAgg21
  z21 := Tryd.sizeOf21
  v21 := Tryd.zeroValue21
  t31 := Tryd.underlying55
  a31 := Tryd.isAgg55
  z31 := Tryd.sizeOf55
  v31 := Tryd.zeroValue55
  t40 := Tryd.underlying78
  a40 := Tryd.isAgg78
  z40 := Tryd.sizeOf78
  v40 := Tryd.zeroValue78
  t152 := Tryd.underlying96
  a152 := Tryd.isAgg96
  z152 := Tryd.sizeOf96
  v152 := Tryd.zeroValue96
  t154 := Tryd.underlying98
  a154 := Tryd.isAgg98
  z154 := Tryd.sizeOf98
  v154 := Tryd.zeroValue98 }
-- impl_number strings_ContainsRune
/-- The words of a text with '+' between them. -/
def impl_numbers.words (s : ByteArray) : List ByteArray := Lib.goFieldsP (strings_ContainsRune.p ⟨#[43]⟩) s
/-- Their numbers. -/
def impl_numbers.run (most : Int) : List ByteArray → List Int → List Int × Bool
  | [], out => (out, true)
  | x :: xs, out => if (impl_number.f x most).2 = true then impl_numbers.run most xs (out ++ [(impl_number.f x most).1]) else ([], false)
def impl_numbers.f (s : ByteArray) (most : Int) : Option (List Int × Bool) := if s.size ≤ 1048576 ∧ (impl_numbers.words s).length ≤ 1048577 ∧ ∀ x ∈ impl_numbers.words s, x.size ≤ 1048576 then some (impl_numbers.run most (impl_numbers.words s) []) else none
set_option maxHeartbeats 4000000 in
set_option maxRecDepth 100000 in
theorem impl_numbers.clos (B : Nat) (w : World) (hB : w.cell? ⟨B, 0, none⟩ = some (.string ⟨#[43]⟩)) : PredGrows Tryd.prog 63 #[.pointer (some ⟨B, 0, none⟩)] (strings_ContainsRune.p ⟨#[43]⟩) w := by
  intro W x hx hb
  have hW : W.cell? ⟨B, 0, none⟩ = some (.string ⟨#[43]⟩) := (hb.cell (p := ⟨B, 0, none⟩) (World.block_lt_of_cell? w _ hB)).trans hB
  show Calls Tryd.prog 63 #[.int .i32 (x : Int), .pointer (some ⟨B, 0, none⟩)] W _
  go_enter Tryd.func63, Tryd.ntmps63
  go_wp2_with fail
  refine (strings_ContainsRune.calls x hx W).mono ?_
  rintro e w1 ⟨rfl, hb1⟩
  go_wp2
  go_ret
  exact ⟨rfl, hb1⟩
theorem impl_numbers.reps {R : ByteArray → List Value → Prop} (hR : ∀ x, R x [.string x]) (l : List ByteArray) : Reps R 1 l (l.map Value.string) := by
  refine ⟨by simp, fun j p hj => ?_⟩
  rw [Nat.mul_one, List.drop_eq_getElem_cons (by
    rw [List.length_map]
    exact (List.getElem?_eq_some_iff.1 hj).1)]
  obtain ⟨h1, h2⟩ := List.getElem?_eq_some_iff.1 hj
  simp [h2, hR]
set_option maxHeartbeats 4000000 in
set_option maxRecDepth 100000 in
theorem impl_numbers.calls (s : ByteArray) (most : Int) (r1 : List Int) (r2 : Bool) (w : World) (hG : impl_number.G w) (h : impl_numbers.f s most = some (r1, r2)) : Calls Tryd.prog 41 #[.string s, .string ⟨#[43]⟩, .int .i64 most] w fun e w' => ∃ v0_ : Value, e = .returned (.tuple #[v0_, .bool r2]) ∧ Kd.R (Kd.int .i64) 3 w' w.heap.size (fun _ => True) v0_ r1 ∧ Below w.heap.size w w' := by
  have HG := Aside0.mk hG
  clear hG
  unfold impl_numbers.f at h
  split at h
  case isFalse => cases h
  rename_i hb
  have HS := Aside0.mk hb
  have H := Aside0.mk (Option.some.inj h)
  clear h hb
  have hb0 := heap_alloc_new w (.cells #[.string ⟨#[43]⟩] 9)
  have hbl := below_alloc (Below.refl w.heap.size w) (.cells #[.string ⟨#[43]⟩] 9)
  have hbl2 := below_alloc hbl (.cells #[] 3)
  have hc0 : ((w.alloc (.cells #[.string ⟨#[43]⟩] 9)).alloc (.cells #[] 3)).cell? ⟨w.heap.size, 0, none⟩ = some (.string ⟨#[43]⟩) := by
    have h1 := (heap_alloc_old (w.alloc (.cells #[.string ⟨#[43]⟩] 9)) (.cells #[] 3) (r := w.heap.size) (by simp)).trans hb0
    exact (blk_cell h1 0).trans rfl
  have hg0 := heap_alloc_new (w.alloc (.cells #[.string ⟨#[43]⟩] 9)) (.cells #[] 3)
  have hs1 : (w.alloc (.cells #[.string ⟨#[43]⟩] 9)).heap.size = w.heap.size + 1 := by simp
  rw [hs1] at hg0
  obtain ⟨w1, hw1⟩ : ∃ w1, w1 = (w.alloc (.cells #[.string ⟨#[43]⟩] 9)).alloc (.cells #[] 3) := ⟨_, rfl⟩
  rw [← hw1] at hbl2 hc0 hg0
  have O1 := Aside0.mk (show Kd.R (Kd.int .i64) 3 w1 w.heap.size (fun _ => True) (.slice (some ⟨w.heap.size + 1, 0, none⟩) 0 0) ([] : List Int) from ⟨fun _ _ => trivial, [], ⟨rfl, .inr ⟨w.heap.size + 1, 0, #[], rfl, by omega, hg0, by simp, by simp, by simp, by simp⟩⟩, Reps.none _ _⟩)
  have B1 := Aside0.mk hbl2
  have hclos := impl_numbers.clos w.heap.size w1 hc0
  have hff := Any.strings_FieldsFunc_grows LayFields 63 #[.pointer (some ⟨w.heap.size, 0, none⟩)] (fun args w => enters_ Tryd.func63 (by kernel_rfl) rfl args w) _ s w1 (by have := HS.out.1; omega) hclos (by kernel_rfl) (by kernel_rfl)
  clear hb0 hbl hbl2 hc0 hg0 hs1 hclos
  go_enter Tryd.func41, Tryd.ntmps41
  go_wp2_with fail
  rw [← hw1]
  refine hff.mono ?_
  clear hff hw1
  rintro e w2 ⟨A, rfl, hA, hown, hb2⟩
  change w2.ownsRow w1.heap.size 9 1 (.slice (some ⟨A, 0, none⟩) (impl_numbers.words s).length (impl_numbers.words s).length) (impl_numbers.words s).length ((impl_numbers.words s).map Value.string) at hown
  have W2 := Aside0.mk (show Kd.R Kd.string 9 w2 w1.heap.size (fun k => k = A) (.slice (some ⟨A, 0, none⟩) (impl_numbers.words s).length (impl_numbers.words s).length) (impl_numbers.words s) from ⟨fun k hk => by simpa [Value.ownBlock, eq_comm] using hk, _, hown, impl_numbers.reps (R := Kd.string.M w2 w1.heap.size (fun k => k = A ∧ some k ≠ (Value.slice (some ⟨A, 0, none⟩) (impl_numbers.words s).length (impl_numbers.words s).length).ownBlock)) (fun x => rfl) _⟩)
  have O2 := Aside0.mk (Kd.R_mono (Kd.R_below (Kd.R_bound O1.out) hb2) (ok' := fun k => k ≠ A) (fun k hk => by have := hk.2.2.1; omega))
  have B2 := Aside0.mk (below_step B1.out hb2)
  have HA := Aside0.mk (show w.heap.size ≤ A ∧ A < w2.heap.size from ⟨Nat.le_trans B1.out.size hA, Kd.R_lt W2.out A (by simp [Value.ownBlock])⟩)
  clear hA hown hb2 O1 B1
  change Aside0 (impl_numbers.run most (impl_numbers.words s) [] = (r1, r2)) at H
  rw [show Lib.goFieldsP (strings_ContainsRune.p ⟨#[43]⟩) s = impl_numbers.words s from rfl]
  generalize impl_numbers.words s = ws at W2 H HS ⊢
  go_wp2
  go_loopg [8, 18] (ws.length + 1) (fun gg v8 v18 wr => ∃ (y : Nat) (out : List Int), v18 = .int .i64 (y : Int) ∧ Aside0 (y ≤ ws.length ∧ ws.length + 1 - y ≤ gg) ∧ Aside0 (out.length ≤ y) ∧ Aside0 (impl_numbers.run most (ws.drop y) out = (r1, r2)) ∧ Aside0 (Kd.R (Kd.int .i64) 3 wr w.heap.size (fun k => k ≠ A) v8 out) ∧ Aside0 (Kd.R Kd.string 9 wr w1.heap.size (fun k => k = A) (.slice (some ⟨A, 0, none⟩) ws.length ws.length) ws) ∧ Aside0 (Below w.heap.size w wr))
  case atStart => exact ⟨0, [], rfl, ⟨Nat.zero_le _, by omega⟩, ⟨Nat.le_refl _⟩, H, O2, W2, B2⟩
  case round =>
    clear H O2 W2 B2
    obtain ⟨y, out, rfl, HY, HO, H, O, W, B⟩ := hrel
    by_cases hy : y < ws.length
    · obtain ⟨ce, hce, hMe, hcc⟩ := Kd.R_get W.out ⟨#[]⟩ (y : Int) (by omega) (by omega)
      obtain ⟨x, hx⟩ : ∃ x, ws[y]? = some x := ⟨_, List.getElem?_eq_getElem hy⟩
      have hMe2 : ce = [.string x] := by
        have h1 : ce = [.string (ws.getD y ⟨#[]⟩)] := hMe
        rw [h1, List.getD_eq_getElem?_getD, hx]
        rfl
      subst hMe2
      have hcell := hcc 0 _ rfl
      rw [Nat.add_zero, show (Kd.string).sz = 1 from rfl, Nat.mul_one, add_at, Nat.zero_add] at hcell
      simp only [Int.toNat_natCast] at hcell
      have hdr : ws.drop y = x :: ws.drop (y + 1) := by
        obtain ⟨h1, h2⟩ := List.getElem?_eq_some_iff.1 hx
        rw [List.drop_eq_getElem_cons h1, h2]
      have HSZ := Aside0.mk (HS.out.2.2 x (List.mem_of_getElem? hx))
      have h := H.out
      rw [hdr] at h
      have HYY := Aside0.mk hy
      have y1 : decide ((y : Int) < (ws.length : Int)) = true := decide_eq_true (by omega)
      have y2 : ((y : Int) < (ws.length : Int)) = True := eq_true (by omega)
      have y3 : (y < ws.length) = True := eq_true hy
      have HWY := Aside0.mk (show wrap64 ((y : Int) + 1) = ((y + 1 : Nat) : Int) by have := HS.out.2.1; unfold wrap64; omega)
      clear hMe hcc hce hx hdr hy H
      go_wp2_with fail
      refine (impl_number.calls x (by have := HSZ.out; omega) most wr (HG.out.below B.out)).mono ?_
      rintro e w4 ⟨rfl, hb4⟩
      have O4 := Aside0.mk (Kd.R_below O.out hb4)
      have W4 := Aside0.mk (Kd.R_below W.out hb4)
      have B4 := Aside0.mk (below_step B.out hb4)
      clear hcell hb4 O W B y1 y2 y3
      simp only [impl_numbers.run] at h
      generalize (impl_number.f x most).1 = n at h ⊢
      cases hq : (impl_number.f x most).2 with
      | true =>
        rw [hq, if_pos rfl] at h
        have H := Aside0.mk h
        clear h hq
        go_wp2_with ((with_reducible refine gate_builtin (b := .append) (xs := #[.tmp 30, .tmp 32]) rfl ?_); at_builtin; refine Kd.R_append (Kd.int .i64) (w0 := w) w.heap.size rfl (.tmp 30) (.tmp 32) 43 3 (.int .i64 0) 8 rfl Tryd.underlying43 info3 rfl (by decide) (by decide) u8 out n [.int .i64 n] (fun k => k ≠ A) (fun _ => False) rfl rfl ?aP (fun _ hk => hk.elim) ?aF ?aO ?aB ?aS ?aL ?_; (case aP => exact rfl); (case aB => exact B4.out); (case aF => exact (fun k hk => by have := Kd.R_lt W4.out A (by simp [Value.ownBlock]); omega)); (case aO => exact O4.out); (case aS => exact B4.out.size); (case aL => have := HO.out; have := HYY.out; have := HS.out; omega); intro v6 w6 ho6 hb6 hg6 hat_; clear hat_)
        have W6 := Aside0.mk (Kd.R_grown W4.out hg6 (fun k hk e => O4.out.1 k e.symm hk))
        have O6 := Aside0.mk ho6
        have B6 := Aside0.mk hb6
        clear ho6 hb6 hg6
        go_roundg (ws.length + 1 - (y + 1))
        case measure => have := HY.out; have := HYY.out; omega
        case rel => exact ⟨y + 1, out ++ [n], by rw [HWY.out], ⟨by have := HYY.out; omega, by omega⟩, ⟨by have := HO.out; simp; omega⟩, H, O6, W6, B6⟩
      | false =>
        rw [hq, if_neg (by decide)] at h
        obtain ⟨rfl, rfl⟩ := Prod.mk.inj h
        clear h hq
        go_wp2
        go_ret2
        exact ⟨_, rfl, Kd.R_nil _ _ _ _ _, B4.out⟩
    · have y1 : decide ((y : Int) < (ws.length : Int)) = false := decide_eq_false (by omega)
      have y2 : ((y : Int) < (ws.length : Int)) = False := eq_false (by omega)
      have y3 : (y < ws.length) = False := eq_false hy
      have h := H.out
      rw [List.drop_eq_nil_of_le (by omega)] at h
      obtain ⟨rfl, rfl⟩ := Prod.mk.inj h
      clear h hy
      go_wp2
      go_ret2
      exact ⟨_, rfl, Kd.R_mono O.out (fun _ _ => trivial), B.out⟩


/-! ### impl_ParseTests: function 18 -/
def LaySplit_ren : Go.Shelf.Ren := ⟨fun | 146 => 40 | 221 => 61 | 268 => 76 | 138 => 77 | 143 => 78 | 195 => 85 | 197 => 86 | 218 => 87 | 219 => 88 | 260 => 101 | 217 => 102 | 225 => 92 | 224 => 91 | 267 => 103 | 266 => 114 | 314 => 115 | n => n, fun | 9 => 9 | 31 => 55 | 3 => 3 | 4 => 4 | 0 => 0 | 105 => 103 | 21 => 21 | 5 => 5 | 46 => 107 | 119 => 129 | 139 => 132 | 138 => 131 | 146 => 133 | 51 => 126 | n => n, fun | 1 => 0 | 3 => 2 | 4 => 3 | n => n⟩
theorem LaySplit : Go.Proofs.LaysM.n146 Tryd.prog LaySplit_ren := {
  mixed := by kernel_rfl
  f138 := Tryd.func77.trans (congrArg some (by kernel_rfl))
  f143 := Tryd.func78.trans (congrArg some (by kernel_rfl))
  f146 := Tryd.func40.trans (congrArg some (by kernel_rfl))
  f195 := Tryd.func85.trans (congrArg some (by kernel_rfl))
  f197 := Tryd.func86.trans (congrArg some (by kernel_rfl))
  f217 := Tryd.func102.trans (congrArg some (by kernel_rfl))
  f218 := Tryd.func87.trans (congrArg some (by kernel_rfl))
  f219 := Tryd.func88.trans (congrArg some (by kernel_rfl))
  f221 := Tryd.func61.trans (congrArg some (by kernel_rfl))
  f224 := Tryd.func91.trans (congrArg some (by kernel_rfl))
  f225 := Tryd.func92.trans (congrArg some (by kernel_rfl))
  f260 := Tryd.func101.trans (congrArg some (by kernel_rfl))
  f266 := Tryd.func114.trans (congrArg some (by kernel_rfl))
  f267 := Tryd.func103.trans (congrArg some (by kernel_rfl))
  f268 := Tryd.func76.trans (congrArg some (by kernel_rfl))
  f314 := Tryd.func115.trans (congrArg some (by kernel_rfl))
  t0 := Tryd.underlying0
  a0 := Tryd.isAgg0
  z0 := Tryd.sizeOf0
  v0 := Tryd.zeroValue0
  t3 := Tryd.underlying3
  a3 := Tryd.isAgg3
  z3 := Tryd.sizeOf3
  v3 := Tryd.zeroValue3
  t4 := Tryd.underlying4
  a4 := Tryd.isAgg4
  z4 := Tryd.sizeOf4
  v4 := Tryd.zeroValue4
  t5 := Tryd.underlying5
  a5 := Tryd.isAgg5
  z5 := Tryd.sizeOf5
  v5 := Tryd.zeroValue5
  t9 := Tryd.underlying9
  a9 := Tryd.isAgg9
  z9 := Tryd.sizeOf9
  v9 := Tryd.zeroValue9
  t21 := Tryd.underlying21
  a21 := Tryd.isAgg21
  z21 := Tryd.sizeOf21
  v21 := Tryd.zeroValue21
  t31 := Tryd.underlying55
  a31 := Tryd.isAgg55
  z31 := Tryd.sizeOf55
  v31 := Tryd.zeroValue55
  t46 := Tryd.underlying107
  a46 := Tryd.isAgg107
  z46 := Tryd.sizeOf107
  v46 := Tryd.zeroValue107
  t51 := Tryd.underlying126
  a51 := Tryd.isAgg126
  z51 := Tryd.sizeOf126
  v51 := Tryd.zeroValue126
  t105 := Tryd.underlying103
  a105 := Tryd.isAgg103
  z105 := Tryd.sizeOf103
  v105 := Tryd.zeroValue103
  t119 := Tryd.underlying129
  a119 := Tryd.isAgg129
  z119 := Tryd.sizeOf129
  t138 := Tryd.underlying131
  a138 := Tryd.isAgg131
  z138 := Tryd.sizeOf131
  v138 := Tryd.zeroValue131
  t139 := Tryd.underlying132
  a139 := Tryd.isAgg132
  z139 := Tryd.sizeOf132
  v139 := Tryd.zeroValue132
  t146 := Tryd.underlying133
  a146 := Tryd.isAgg133
  z146 := Tryd.sizeOf133
  v146 := Tryd.zeroValue133
  g1 := by kernel_rfl
  g3 := by kernel_rfl
  g4 := by kernel_rfl
  i0 := by kernel_rfl
  i3 := by kernel_rfl
  i4 := by kernel_rfl
  i5 := by kernel_rfl
  i9 := by kernel_rfl
  i21 := by kernel_rfl
  i31 := by kernel_rfl
  i46 := by kernel_rfl
  i51 := by kernel_rfl
  i105 := by kernel_rfl
  i138 := by kernel_rfl
  i139 := by kernel_rfl
  i146 := by kernel_rfl
  m1 := by kernel_rfl
  s1_3 := fun w h => Go.Proofs.cell_of_shapedOpen_int (zero := #[.int .i64 0]) (t := 3) h (of_decide_eq_true (by kernel_rfl)) (by kernel_rfl) rfl (by kernel_rfl) (by kernel_rfl) Tryd.underlying3
  m3 := by kernel_rfl
  m4 := by kernel_rfl }
-- impl_numbers impl_AreTests impl_testsText
/-- What the library's own variables hold. -/
def impl_ParseTests.G (w : World) : Prop := impl_number.G w ∧ ∃ m, w.cell? ⟨LaySplit_ren.g 1, 0, none⟩ = some (.int .i64 m)
theorem impl_ParseTests.G.below {w w' : World} (h : impl_ParseTests.G w) (hb : Below w.heap.size w w') : impl_ParseTests.G w' := by
  obtain ⟨h1, m, h2⟩ := h
  exact ⟨h1.below hb, m, (hb.cell (p := ⟨LaySplit_ren.g 1, 0, none⟩) (World.block_lt_of_cell? w _ h2)).trans h2⟩
/-- The pieces between strokes. -/
def impl_ParseTests.parts (s : ByteArray) : List ByteArray := Lib.splitB ⟨#[47]⟩ 0 (Lib.countB s ⟨#[47]⟩) s
/-- Their rows. -/
def impl_ParseTests.rows : List ByteArray → List (List Int) → Option (List (List Int) × Bool)
  | [], out => some (out, true)
  | p :: ps, out => (impl_numbers.f p 10).bind fun t => if t.2 = true then impl_ParseTests.rows ps (out ++ [t.1]) else some ([], false)
def impl_ParseTests.f (k : Nat) (s : ByteArray) : Option (List (List Int) × Bool) := if s.size ≤ 1048576 ∧ (impl_ParseTests.parts s).length ≤ 1048577 then (if s.toList = [] then some ([], true) else (impl_ParseTests.rows (impl_ParseTests.parts s) []).bind fun t => if t.2 = true then ((impl_AreTests.f 10 t.1).bind fun b => if b = true then ((impl_testsText.f k t.1).bind fun x => if x.toList = s.toList then some (t.1, true) else some ([], false)) else some ([], false)) else some ([], false)) else none
theorem impl_ParseTests.mono : ∀ a0 k, LeO (impl_ParseTests.f k a0) (impl_ParseTests.f (k + 1) a0) := fun a0 k => LeO.ite (LeO.ite (LeO.refl _) (LeO.bind (LeO.refl _) (fun _ => LeO.ite (LeO.bind (LeO.refl _) (fun _ => LeO.ite (LeO.bind (impl_testsText.mono _ _) (fun _ => LeO.refl _)) (LeO.refl _))) (LeO.refl _)))) (LeO.none _)
theorem impl_ParseTests.rows_fail : ∀ (ps : List ByteArray) (out : List (List Int)) (r : List (List Int)), impl_ParseTests.rows ps out = some (r, false) → r = []
  | [], out, r, h => by cases h
  | p :: ps, out, r, h => by
    unfold impl_ParseTests.rows at h
    obtain ⟨t, _, h⟩ := Option.bind_eq_some_iff.mp h
    split at h
    · exact impl_ParseTests.rows_fail ps _ r h
    · cases h; rfl
set_option maxHeartbeats 4000000 in
set_option maxRecDepth 100000 in
theorem impl_ParseTests.calls (k : Nat) (s : ByteArray) (r1 : List (List Int)) (r2 : Bool) (w : World) (hG : impl_ParseTests.G w) (h : impl_ParseTests.f k s = some (r1, r2)) : Calls Tryd.prog 18 #[.string s] w fun e w' => ∃ v0_ : Value, e = .returned (.tuple #[v0_, .bool r2]) ∧ Kd.S (Kd.slice 3 (Kd.int .i64)) 43 w' w.heap.size (fun _ => True) v0_ r1 ∧ Below w.heap.size w w' := by
  have HG := Aside0.mk hG
  clear hG
  unfold impl_ParseTests.f at h
  split at h
  case isFalse => cases h
  rename_i hb
  have HS := Aside0.mk hb
  clear hb
  have hnew := heap_alloc_new w (.cells #[] 43)
  have hbl := below_alloc (Below.refl w.heap.size w) (.cells #[] 43)
  obtain ⟨w1, hw1⟩ : ∃ w1, w1 = w.alloc (.cells #[] 43) := ⟨_, rfl⟩
  rw [← hw1] at hnew hbl
  have O1 := Aside0.mk (show Kd.S (Kd.slice 3 (Kd.int .i64)) 43 w1 w.heap.size (fun _ => True) (.slice (some ⟨w.heap.size, 0, none⟩) 0 0) ([] : List (List Int)) from ⟨fun _ => 0, fun _ _ => trivial, [], ⟨rfl, .inr ⟨w.heap.size, 0, #[], rfl, Nat.le_refl _, hnew, by simp, by simp, by simp, by simp⟩⟩, Reps.none _ _⟩)
  have B1 := Aside0.mk hbl
  clear hnew hbl
  by_cases he : s.toList = []
  · rw [if_pos he] at h
    obtain ⟨rfl, rfl⟩ := Prod.mk.inj (Option.some.inj h)
    have b1 : s.toList.isEmpty = true := by rw [he]; rfl
    clear h he
    go_enter Tryd.func18, Tryd.ntmps18
    go_wp2
    rw [← hw1]
    go_ret2
    exact ⟨_, rfl, O1.out, B1.out⟩
  · rw [if_neg he] at h
    have b1 : s.toList.isEmpty = false := by
      cases hq : s.toList with
      | nil => exact absurd hq he
      | cons a l => rfl
    clear he
    obtain ⟨t, ht, h⟩ := Option.bind_eq_some_iff.mp h
    have HT := Aside0.mk ht
    have HH := Aside0.mk h
    clear ht h
    obtain ⟨m, hm⟩ := HG.out.2
    have hsp := Any.strings_Split { LaySplit with } LaySplit.i9 s ⟨#[47]⟩ m w1 (by have := HS.out.1; omega) ((B1.out.cell (p := ⟨LaySplit_ren.g 1, 0, none⟩) (World.block_lt_of_cell? w _ hm)).trans hm) (by decide)
    have hlen : (impl_ParseTests.parts s).length = Lib.countB s ⟨#[47]⟩ + 1 := Lib.splitB_all ⟨#[47]⟩ (by decide) 0 _ s rfl
    rw [← hlen] at hsp
    go_enter Tryd.func18, Tryd.ntmps18
    go_wp2_with fail
    rw [← hw1]
    refine hsp.mono ?_
    clear hsp hm
    rintro e w2 ⟨rfl, hw2⟩
    have hnew2 := heap_alloc_new w1 (.cells ((impl_ParseTests.parts s).map Value.string).toArray 9)
    have hb2 := below_alloc (Below.refl w1.heap.size w1) (.cells ((impl_ParseTests.parts s).map Value.string).toArray 9)
    rw [show w1.alloc (.cells ((impl_ParseTests.parts s).map Value.string).toArray 9) = w2 from hw2.symm] at hnew2 hb2
    obtain ⟨A, hA⟩ : ∃ A, A = w1.heap.size := ⟨_, rfl⟩
    rw [← hA] at hnew2 ⊢
    have HA := Aside0.mk (show w.heap.size < A ∧ A < w2.heap.size from ⟨by rw [hA, hw1]; simp, blk_lt hnew2⟩)
    have O2 := Aside0.mk (Kd.S_mono (Kd.S_below (Kd.S_bound O1.out) hb2) (ok' := fun k => k < A) (fun k hk => by have := hk.2.2.1; omega))
    have B2 := Aside0.mk (below_step B1.out hb2)
    have W2 := Aside0.mk hnew2
    obtain ⟨ps, hps⟩ : ∃ ps, ps = impl_ParseTests.parts s := ⟨_, rfl⟩
    rw [← hps] at HT HS W2 ⊢
    clear hw2 hnew2 hb2 hA hlen hps O1 B1 hw1
    go_wp2
    go_loopg [4, 16] (ps.length + 1) (fun gg v4 v16 wr => ∃ (y : Nat) (out : List (List Int)), v16 = .int .i64 (y : Int) ∧ Aside0 (y ≤ ps.length ∧ ps.length + 1 - y ≤ gg) ∧ Aside0 (out.length ≤ y) ∧ Aside0 (impl_ParseTests.rows (ps.drop y) out = some t) ∧ Aside0 (Kd.S (Kd.slice 3 (Kd.int .i64)) 43 wr w.heap.size (fun k => k ≠ A) v4 out) ∧ Aside0 (wr.heap[A]? = some (.cells (ps.map Value.string).toArray 9)) ∧ Aside0 (Below w.heap.size w wr))
    case atStart => exact ⟨0, [], rfl, ⟨Nat.zero_le _, by omega⟩, ⟨Nat.le_refl _⟩, HT, ⟨Kd.S_mono O2.out (fun k hk => by omega)⟩, W2, B2⟩
    case round =>
      clear HT O2 W2 B2
      obtain ⟨y, out, rfl, HY, HO, HT, O, W, B⟩ := hrel
      by_cases hy : y < ps.length
      · have hcell : wr.cell? ⟨A, y, none⟩ = some (.string ps[y]) := (blk_cell W.out y).trans (by simp [hy])
        obtain ⟨x, hx⟩ : ∃ x, x = ps[y] := ⟨_, rfl⟩
        rw [← hx] at hcell
        have h := HT.out
        rw [List.drop_eq_getElem_cons hy, ← hx] at h
        unfold impl_ParseTests.rows at h
        obtain ⟨⟨n1, n2⟩, hn, h⟩ := Option.bind_eq_some_iff.mp h
        have HYY := Aside0.mk hy
        have y1 : decide ((y : Int) < (ps.length : Int)) = true := decide_eq_true (by omega)
        have y2 : ((y : Int) < (ps.length : Int)) = True := eq_true (by omega)
        have y3 : (y < ps.length) = True := eq_true hy
        have HWY := Aside0.mk (show wrap64 ((y : Int) + 1) = ((y + 1 : Nat) : Int) by have := HS.out.2; unfold wrap64; omega)
        obtain ⟨s0, hs0⟩ : ∃ s0, s0 = wr.heap.size := ⟨_, rfl⟩
        have HN := Aside0.mk hn
        have HS0 := Aside0.mk (show A < s0 ∧ w.heap.size ≤ s0 by rw [hs0]; exact ⟨blk_lt W.out, B.out.size⟩)
        clear hx hy hn HT
        go_wp2_with fail
        refine (impl_numbers.calls x 10 n1 n2 wr (HG.out.below B.out).1 HN.out).mono ?_
        rintro e w4 ⟨v7, rfl, hv, hb4⟩
        have hle := hb4.size
        rw [← hs0] at hle
        have HLE := Aside0.mk hle
        have R4 := Aside0.mk (show Kd.R (Kd.int .i64) 3 w4 w.heap.size (fun k => s0 ≤ k) v7 n1 from Kd.R_lower (Kd.R_mono (Kd.R_bound hv) (fun k hk => by have := hk.2.1; omega)) B.out.size)
        have O4 := Aside0.mk (Kd.S_mono (Kd.S_below (Kd.S_bound O.out) hb4) (ok' := fun k => k ≠ A ∧ k < s0) (fun k hk => ⟨hk.1, by have := hk.2.2.1; omega⟩))
        have W4 := Aside0.mk ((hb4.block A (blk_lt W.out)).trans W.out)
        have B4 := Aside0.mk (below_step B.out hb4)
        clear hcell hv hb4 O W B y1 y2 y3 hs0 hle
        cases n2 with
        | true =>
          rw [if_pos rfl] at h
          have HT := Aside0.mk h
          clear h
          obtain ⟨A7, c7, rfl⟩ := Kd.R_slice R4.out
          go_wp2_with ((with_reducible refine gate_builtin (b := .append) (xs := #[.tmp 27, .tmp 29]) rfl ?_); at_builtin; refine Kd.S_append (Kd.slice 3 (Kd.int .i64)) (w0 := w) w.heap.size rfl (.tmp 27) (.tmp 29) 22 43 (.slice none 0 0) 24 rfl Tryd.underlying22 info43 rfl (by decide) (by decide) u4 out n1 [.slice A7 n1.length c7] (fun k => k ≠ A) (fun k => s0 ≤ k) rfl rfl ?aP ?aK ?aF ?aO ?aB ?aS ?aL ?_; (case aP => exact ⟨_, rfl, R4.out⟩); (case aK => exact (fun k hk => ⟨by have := HS0.out; omega, fun e => by have h1 := (O4.out.choose_spec.1 k e.symm).2; omega⟩)); (case aF => exact (fun k hk => by have := HS0.out; have := HLE.out; omega)); (case aO => exact Kd.S_mono O4.out (fun k hk => ⟨hk.1, by omega⟩)); (case aB => exact B4.out); (case aS => exact B4.out.size); (case aL => have := HO.out; have := HYY.out; have := HS.out; omega); intro v6 w6 ho6 hb6 hg6 hat_; clear hat_)
          have W6 := Aside0.mk ((hg6.block A (blk_lt W4.out) (fun e => (O4.out.choose_spec.1 A e.symm).1 rfl)).trans W4.out)
          have O6 := Aside0.mk ho6
          have B6 := Aside0.mk hb6
          clear ho6 hb6 hg6
          go_roundg (ps.length + 1 - (y + 1))
          case measure => have := HY.out; have := HYY.out; omega
          case rel => exact ⟨y + 1, out ++ [n1], by rw [HWY.out], ⟨by have := HYY.out; omega, by omega⟩, ⟨by have := HO.out; simp; omega⟩, HT, O6, W6, B6⟩
        | false =>
          rw [if_neg (show ¬ (false = true) by decide)] at h
          have h1 := (Option.some.inj h).symm
          subst h1
          have h2 := HH.out
          rw [if_neg (show ¬ (false = true) by decide)] at h2
          obtain ⟨rfl, rfl⟩ := Prod.mk.inj (Option.some.inj h2)
          clear h h2
          go_wp2
          go_ret2
          exact ⟨_, rfl, Kd.S_nil _ _ _ _ _, B4.out⟩
      · have y1 : decide ((y : Int) < (ps.length : Int)) = false := decide_eq_false (by omega)
        have y2 : ((y : Int) < (ps.length : Int)) = False := eq_false (by omega)
        have y3 : (y < ps.length) = False := eq_false hy
        have h := HT.out
        rw [List.drop_eq_nil_of_le (by omega)] at h
        have h1 := (Option.some.inj h).symm
        subst h1
        have h2 := HH.out
        rw [if_pos (show true = true from rfl)] at h2
        obtain ⟨b, hb, h2⟩ := Option.bind_eq_some_iff.mp h2
        obtain ⟨A4, c4, hv4, hc4, hC4⟩ := Kd.S_reads O.out
        subst hv4
        have HB := Aside0.mk hb
        have HC := Aside0.mk hC4
        have HCC := Aside0.mk hc4
        clear h hy hb hC4 hc4 HT HH
        go_wp2_with fail
        refine (impl_AreTests.calls 10 A4 c4 out b wr HC.out HCC.out HB.out).mono ?_
        rintro e w5 ⟨rfl, hb5⟩
        have O5 := Aside0.mk (Kd.S_below O.out hb5)
        have C5 := Aside0.mk (Kd.C_below HC.out hb5)
        have B5 := Aside0.mk (below_step B.out hb5)
        clear hb5 O B W HC
        cases b with
        | false =>
          rw [if_neg (show ¬ (false = true) by decide)] at h2
          obtain ⟨rfl, rfl⟩ := Prod.mk.inj (Option.some.inj h2)
          clear h2
          go_wp2
          go_ret2
          exact ⟨_, rfl, Kd.S_nil _ _ _ _ _, B5.out⟩
        | true =>
          rw [if_pos (show true = true from rfl)] at h2
          obtain ⟨x, hx, h2⟩ := Option.bind_eq_some_iff.mp h2
          have HX := Aside0.mk hx
          clear hx
          go_wp2_with fail
          refine (impl_testsText.calls k A4 c4 out x w5 C5.out HCC.out HX.out).mono ?_
          rintro e w6 ⟨rfl, hb6⟩
          have O6 := Aside0.mk (Kd.S_below O5.out hb6)
          have B6 := Aside0.mk (below_step B5.out hb6)
          clear hb6 O5 B5 C5
          by_cases hq : x.toList = s.toList
          · have q1 : (x.toList == s.toList) = true := beq_iff_eq.mpr hq
            have q2 : (x.toList != s.toList) = false := bne_eq_false_iff_eq.mpr hq
            rw [if_pos hq] at h2
            obtain ⟨rfl, rfl⟩ := Prod.mk.inj (Option.some.inj h2)
            clear h2 hq
            go_wp2
            go_ret2
            exact ⟨_, rfl, Kd.S_mono O6.out (fun _ _ => trivial), B6.out⟩
          · have q1 : (x.toList == s.toList) = false := beq_eq_false_iff_ne.mpr hq
            have q2 : (x.toList != s.toList) = true := bne_iff_ne.mpr hq
            rw [if_neg hq] at h2
            obtain ⟨rfl, rfl⟩ := Prod.mk.inj (Option.some.inj h2)
            clear h2 hq
            go_wp2
            go_ret2
            exact ⟨_, rfl, Kd.S_nil _ _ _ _ _, B6.out⟩


/-! ### laws_markIntS: function 42 -/
def laws_markIntS.l0 : Nat → List Int → Int → Int → Option (Int × List Int)
  | 0, _, _, _ => none
  | k + 1, x0, x1, x5 => if x5 < (x0.length : Int) then (if 0 ≤ x5 then (laws_markIntS.l0 k (x0.set (x5 : Int).toNat x1) (wrap64 (x1 + 1)) (wrap64 (x5 + 1))) else (none)) else (some (x1, x0))
def laws_markIntS.f (k : Nat) (l0 : List Int) (a1 : Int) : Option (Int × List Int) := laws_markIntS.l0 k l0 a1 0
theorem laws_markIntS.mono_l : ∀ k, (∀ y0 y1 y2, LeO (laws_markIntS.l0 k y0 y1 y2) (laws_markIntS.l0 (k + 1) y0 y1 y2))
  | 0 => fun _ _ _ r h => by simp [laws_markIntS.l0] at h
  | k + 1 => by
    have ih0 := laws_markIntS.mono_l k
    · intro y0 y1 y2
      unfold laws_markIntS.l0
      repeat' first
      | (with_reducible exact ih0 _ _ _)
      | (with_reducible exact LeO.refl _)
      | (with_reducible exact LeO.none _)
      | (with_reducible refine LeO.ite ?_ ?_)
      | (with_reducible refine LeO.bind ?_ (fun _ => ?_))
      | exact ih0 _ _ _
      | exact LeO.none _
      | refine LeO.ite ?_ ?_
      | refine LeO.bind ?_ (fun _ => ?_)
theorem laws_markIntS.mono : ∀ a0 a1 k, LeO (laws_markIntS.f k a0 a1) (laws_markIntS.f (k + 1) a0 a1) := by
  intro a0 a1 k
  have ih0 := laws_markIntS.mono_l k
  unfold laws_markIntS.f
  repeat' first
      | (with_reducible exact ih0 _ _ _)
      | (with_reducible exact LeO.refl _)
      | (with_reducible exact LeO.none _)
      | (with_reducible refine LeO.ite ?_ ?_)
      | (with_reducible refine LeO.bind ?_ (fun _ => ?_))
      | exact ih0 _ _ _
      | exact LeO.none _
      | refine LeO.ite ?_ ?_
      | refine LeO.bind ?_ (fun _ => ?_)
set_option maxHeartbeats 8000000 in
set_option maxRecDepth 100000 in
theorem laws_markIntS.calls (k : Nat) (P0_ : Nat → Prop) (u9000_ : Value) (l0 : List Int) (a1 : Int) (r1 : Int) (r2 : List Int) (w0 w : World) (hB : Below w0.heap.size w0 w) (ho0 : Kd.R (Kd.int .i64) 3 w w0.heap.size P0_ u9000_ l0) (h : laws_markIntS.f k l0 a1 = some (r1, r2)) :
    Calls Tryd.prog 42 #[u9000_, .int .i64 a1] w fun e w' => e = .returned (.int .i64 r1) ∧ Kd.R (Kd.int .i64) 3 w' w0.heap.size (fun k_ => (P0_ k_ ∨ w.heap.size ≤ k_)) u9000_ r2 ∧ Below w0.heap.size w0 w' ∧ Kept w w' (fun k_ => P0_ k_) := by
  have HO0 := Aside0.mk (show Kd.R (Kd.int .i64) 3 w w0.heap.size (fun k_ => (P0_ k_ ∨ w.heap.size ≤ k_)) u9000_ l0 from Kd.R_mono ho0 (fun k_ hk => (.inl hk)))
  have HK := Aside0.mk (Kept.refl w (fun k_ => P0_ k_))
  have HW0 := Aside0.mk hB.size
  have HB := Aside0.mk hB
  clear hB
  have H : (laws_markIntS.l0 k l0 a1 0) = some (r1, r2) := h
  clear h
  have H' := Aside0.mk H
  clear H
  go_enter Tryd.func42, Tryd.ntmps42
  go_wp2
  go_loopg [1, 5] k (fun kq v1 v5 w' => ∃ (x0_1 : List Int) (x1_1 : Int) (x5_1 : Int), v1 = .int .i64 x1_1 ∧ v5 = .int .i64 x5_1 ∧ Aside0 (laws_markIntS.l0 kq x0_1 x1_1 x5_1 = some (r1, r2)) ∧ Aside0 (kq ≤ k) ∧ Aside0 (Kd.R (Kd.int .i64) 3 w' w0.heap.size (fun k_ => (P0_ k_ ∨ w.heap.size ≤ k_)) u9000_ x0_1) ∧ Aside0 (Kept w w' (fun k_ => P0_ k_)) ∧ Aside0 (Below w0.heap.size w0 w'))
  case atStart => exact ⟨(l0), (a1), (0), (by first | rfl | (simp; done) | (simp [*]; done)), (by first | rfl | (simp; done) | (simp [*]; done)), H', ⟨Nat.le_refl _⟩, ⟨by (with_reducible repeat (first | apply Kd.R_alloc | apply Kd.R_drewN | apply Kd.R_drew)); exact HO0.out⟩, ⟨by repeat (first | (with_reducible first | exact HK.out | apply Kept.alloc | apply Kept.drewN | apply Kept.drew) | exact HK.out)⟩, ⟨by repeat (first | (with_reducible first | exact HB.out | apply below_alloc | apply pw_below_drewN | apply below_drew1) | exact HB.out)⟩⟩
  case round =>
    clear H'
    try clear p2
    obtain ⟨x0_1, x1_1, x5_1, rfl, rfl, HA, HK1, HO_0, HK, HB⟩ := hrel
    cases gk with
    | zero => exact absurd HA.out (by simp [laws_markIntS.l0])
    | succ k1 =>
      have H := HA.out
      clear HA
      simp only [laws_markIntS.l0] at H
      by_cases c3 : x5_1 < (x0_1.length : Int)
      · rw [if_pos c3] at H
        have c3b0 : decide (x5_1 < (x0_1.length : Int)) = true := decide_eq_true c3
        clear c3
        by_cases c4 : 0 ≤ x5_1
        · rw [if_pos c4] at H
          have c4b0 : decide (0 ≤ x5_1) = true := decide_eq_true c4
          clear c4
          obtain ⟨y175, hy175⟩ : ∃ y_ : List Int, y_ = (x0_1.set (x5_1 : Int).toNat x1_1) := ⟨_, rfl⟩
          replace H : (laws_markIntS.l0 k1 y175 (wrap64 (x1_1 + 1)) (wrap64 (x5_1 + 1))) = some (r1, r2) := by first | (rw [hy175]; with_reducible exact H) | (have H2_ := (Option.bind_some _ _).symm.trans H; rw [hy175]; with_reducible exact H2_) | (have H2_ := (Option.bind_some _ _).symm.trans H; with_reducible exact H2_) | with_reducible exact H | (rw [hy175]; exact H) | exact H
          have Ny175 := Aside0.mk hy175
          clear hy175
          have H' := Aside0.mk H
          clear H
          obtain ⟨Ao6, co6, eo6⟩ := Kd.R_slice HO_0.out
          subst eo6
          have p5 : 0 ≤ (x5_1 : Int) := of_decide_eq_true (by first | (with_reducible assumption) | assumption)
          have q5 : (x5_1 : Int) < ((x0_1.length : Int) : Int) := of_decide_eq_true (by first | (with_reducible assumption) | assumption)
          obtain ⟨go5, co5, eo5, gb5, gl5, cl5, HG5⟩ := Kd.R_form HO_0.out (by omega)
          (first | cases eo5 | (injection eo5 with ea_ en_ ec_; (first | subst ea_ | (injection ea_ with ea_; subst ea_)); subst ec_; clear en_))
          have GB5 := Aside0.mk gb5
          have GG5 := Aside0.mk HG5
          clear gb5 gl5 HG5
          have HMgo5 := Aside0.mk (show (P0_ go5 ∨ w.heap.size ≤ go5) from (HO_0.out.1 _ rfl))
          obtain ⟨hx5_0, hf5_0⟩ := Kd.R_celln 0 HO_0.out (x5_1 : Int) p5 q5
          replace p5 := eq_true p5
          replace q5 := eq_true q5
          have HP7 := Kd.R_putg HO_0.out (x5_1 : Int) x1_1
          go_wp2_with (first | ((with_reducible refine gate_store (t := 3) (p := 15) rfl ?_); refine store_event (t := 3) (p := 15) (v := ?vo_w8) (w1 := (wr.setCell ⟨go5, (x5_1 : Int).toNat, none⟩ (.int .i64 x1_1))) ?hg ?ho ?hn ?hr ?_; (case ho => rfl); (case hg => rfl); (case hn => rfl); (case hr => first | (go_simp; done) | (go_simp; rfl)); intro w8 hw; have hg : wr.grownBy w8 (some go5) := (by rw [hw]; exact HP7.2); have hp_ : Kd.R (Kd.int .i64) 3 w8 w0.heap.size (fun k_ => (P0_ k_ ∨ w.heap.size ≤ k_)) (.slice (some ⟨go5, 0, none⟩) x0_1.length co6) y175 := (by rw [hw, Ny175.out]; exact HP7.1); clear HP7; have n0_ := Aside0.mk (hp_); have n1_ := Aside0.mk ((by rw [hw]; exact below_set (HB.out) GB5.out : Below w0.heap.size w0 w8)); have n2_ := Aside0.mk (Kept.of_grown (S := (fun k_ => P0_ k_)) hg (by repeat (first | (with_reducible first | exact HK.out | apply Kept.alloc | apply Kept.drewN | apply Kept.drew) | exact HK.out)) (fun k_ e_ => (HO_0.out.1 k_ e_))); clear HO_0; clear HB; clear HK; have HO_0 := n0_; have HB := n1_; have HK := n2_; clear n0_ n1_ n2_; clear hg hw hp_))
          go_roundg k1
          case measure => have := HK1.out; omega
          case rel => exact ⟨(y175), (wrap64 (x1_1 + 1)), (wrap64 (x5_1 + 1)), (by first | rfl | (simp; done) | (simp [*]; done)), (by first | rfl | (simp; done) | (simp [*]; done)), H', ⟨by have := HK1.out; omega⟩, ⟨by (with_reducible repeat (first | apply Kd.R_alloc | apply Kd.R_drewN | apply Kd.R_drew)); exact HO_0.out⟩, ⟨by repeat (first | (with_reducible first | exact HK.out | apply Kept.alloc | apply Kept.drewN | apply Kept.drew) | exact HK.out)⟩, ⟨by repeat (first | (with_reducible first | exact HB.out | apply below_alloc | apply pw_below_drewN | apply below_drew1) | exact HB.out)⟩⟩
        · rw [if_neg c4] at H
          exact absurd H (by simp)
      · rw [if_neg c3] at H
        have c3b0 : decide (x5_1 < (x0_1.length : Int)) = false := decide_eq_false c3
        clear c3
        simp only [Option.some.injEq, Prod.mk.injEq] at H
        obtain ⟨rfl, rfl⟩ := H
        obtain ⟨Ao9, co9, eo9⟩ := Kd.R_slice HO_0.out
        subst eo9
        go_wp2
        go_ret
        exact ⟨by first | rfl | (simp [errW_none, errW_some] <;> rfl) | (simp [*, errW_none, errW_some] <;> rfl), by (with_reducible repeat (first | apply Kd.R_alloc | apply Kd.R_drewN | apply Kd.R_drew)); exact HO_0.out, by repeat (first | (with_reducible first | exact HB.out | apply below_alloc | apply pw_below_drewN | apply below_drew1) | exact HB.out), by repeat (first | (with_reducible first | exact HK.out | apply Kept.alloc | apply Kept.drewN | apply Kept.drew) | exact HK.out)⟩

/-! ### laws_markIntSS: function 19 -/
def laws_markIntSS.l0 : Nat → List (List Int) → Int → Int → Option (Int × List (List Int))
  | 0, _, _, _ => none
  | k + 1, x0, x1, x5 => if x5 < (x0.length : Int) then (if 0 ≤ x5 then ((laws_markIntS.f k (x0.getD x5.toNat []) x1).bind fun b => laws_markIntSS.l0 k (x0.set x5.toNat b.2) b.1 (wrap64 (x5 + 1))) else (none)) else (some (x1, x0))
def laws_markIntSS.f (k : Nat) (l0 : List (List Int)) (a1 : Int) : Option (Int × List (List Int)) := laws_markIntSS.l0 k l0 a1 0
theorem laws_markIntSS.mono_l : ∀ k, (∀ y0 y1 y2, LeO (laws_markIntSS.l0 k y0 y1 y2) (laws_markIntSS.l0 (k + 1) y0 y1 y2))
  | 0 => fun _ _ _ r h => by simp [laws_markIntSS.l0] at h
  | k + 1 => by
    have ih0 := laws_markIntSS.mono_l k
    intro y0 y1 y2
    unfold laws_markIntSS.l0
    refine LeO.ite (LeO.ite (LeO.bind (laws_markIntS.mono _ _ _) (fun _ => ih0 _ _ _)) (LeO.none _)) (LeO.refl _)
theorem laws_markIntSS.mono : ∀ a0 a1 k, LeO (laws_markIntSS.f k a0 a1) (laws_markIntSS.f (k + 1) a0 a1) := fun a0 a1 k => laws_markIntSS.mono_l k a0 a1 0
set_option maxHeartbeats 1000000 in
set_option maxRecDepth 100000 in
theorem laws_markIntSS.calls (k : Nat) (P0_ : Nat → Prop) (u : Value) (l0 : List (List Int)) (a1 : Int) (r1 : Int) (r2 : List (List Int)) (w0 w : World) (hB : Below w0.heap.size w0 w) (ho0 : Kd.S (Kd.slice 3 (Kd.int .i64)) 43 w w0.heap.size P0_ u l0) (h : laws_markIntSS.f k l0 a1 = some (r1, r2)) :
    Calls Tryd.prog 19 #[u, .int .i64 a1] w fun e w' => e = .returned (.int .i64 r1) ∧ Kd.S (Kd.slice 3 (Kd.int .i64)) 43 w' w0.heap.size P0_ u r2 ∧ Below w0.heap.size w0 w' ∧ Kept w w' P0_ := by
  obtain ⟨Au, cu, rfl⟩ := Kd.S_slice ho0
  have HO := Aside0.mk ho0
  have HK := Aside0.mk (Kept.refl w P0_)
  have HB := Aside0.mk hB
  clear hB ho0
  have H' := Aside0.mk (show laws_markIntSS.l0 k l0 a1 0 = some (r1, r2) from h)
  clear h
  go_enter Tryd.func19, Tryd.ntmps19
  go_wp2
  go_loopg [1, 5] k (fun kq v1 v5 w' => ∃ (x0_1 : List (List Int)) (x1_1 : Int) (x5_1 : Int), v1 = .int .i64 x1_1 ∧ v5 = .int .i64 x5_1 ∧ Aside0 (laws_markIntSS.l0 kq x0_1 x1_1 x5_1 = some (r1, r2)) ∧ Aside0 (kq ≤ k) ∧ Aside0 (Kd.S (Kd.slice 3 (Kd.int .i64)) 43 w' w0.heap.size P0_ (.slice Au l0.length cu) x0_1) ∧ Aside0 (Kept w w' P0_) ∧ Aside0 (Below w0.heap.size w0 w'))
  case atStart => exact ⟨l0, a1, 0, rfl, rfl, H', ⟨Nat.le_refl _⟩, HO, HK, HB⟩
  case round =>
    clear H' HO HK HB
    obtain ⟨x0_1, x1_1, x5_1, rfl, rfl, HA, HK1, HO, HK, HB⟩ := hrel
    have hl := (Kd.S_reads' HO.out).1
    rw [hl] at HO
    (try simp only [hl])
    have HL := Aside0.mk hl
    clear hl
    cases gk with
    | zero => exact absurd HA.out (by simp [laws_markIntSS.l0])
    | succ k1 =>
      have H := HA.out
      clear HA
      simp only [laws_markIntSS.l0] at H
      by_cases c3 : x5_1 < (x0_1.length : Int)
      · rw [if_pos c3] at H
        have c3b0 : decide (x5_1 < (x0_1.length : Int)) = true := decide_eq_true c3
        by_cases c4 : 0 ≤ x5_1
        · rw [if_pos c4] at H
          have c4b0 : decide (0 ≤ x5_1) = true := decide_eq_true c4
          obtain ⟨b, A50, H⟩ := Option.bind_eq_some_iff.mp H
          obtain ⟨m1, m2⟩ := b
          have H' := Aside0.mk H
          clear H
          obtain ⟨g, cap, hv, hg1, hg2, hg3⟩ := Kd.S_form HO.out (by omega)
          injection hv with ha hn hc
          subst ha hc
          clear hn hg1 hg2 hg3
          obtain ⟨oki, c, hcl, hM, hcell, hoki, hH⟩ := Kd.S_lend HO.out [] x5_1 c4 c3
          generalize x0_1.getD x5_1.toNat [] = el at hM A50
          have A5 := Aside0.mk A50
          clear A50
          obtain ⟨v, rfl, hR⟩ := hM
          obtain ⟨A1, c1, rfl⟩ := Kd.R_slice hR
          have hx := hcell 0 _ rfl
          clear hcell hcl
          (try simp only [show (Kd.slice 3 (Kd.int .i64)).sz = 1 from rfl, Nat.mul_one, Nat.add_zero] at hx)
          have HR := Aside0.mk hR
          have HOK := Aside0.mk hoki
          have HH := Aside0.mk hH
          clear hR hoki hH c3 c4 HO
          have c3 : x5_1 < (x0_1.length : Int) := of_decide_eq_true c3b0
          have c4 : 0 ≤ x5_1 := of_decide_eq_true c4b0
          replace c3 := eq_true c3
          replace c4 := eq_true c4
          go_wp2_with fail
          refine (laws_markIntS.calls k1 oki (.slice A1 _ c1) el x1_1 m1 m2 w0 _ HB.out HR.out A5.out).mono ?_
          rintro e w' ⟨rfl, hy0, hb, hkp⟩
          have n0 := Aside0.mk (Kd.H_back (Kd.H_step HH.out (fun k' hk' hn hlt => hkp.2 k' hlt hn)) (okp := oki) (Kd.M_row (Kd.R_reok rfl hy0 (fun k' e_ => HR.out.1 k' e_))) (fun _ hk => hk))
          have n1 := Aside0.mk (HK.out.then_ hkp (fun k' hk' => .inl (HOK.out k' hk').1))
          have n2 := Aside0.mk hb
          clear HH HK HB HR HOK hy0 hb hkp
          go_wp2
          have hl := HL.out
          (try simp only [← hl])
          clear hl
          go_roundg k1
          case measure => have := HK1.out; omega
          case rel => exact ⟨_, m1, (wrap64 (x5_1 + 1)), rfl, (by first | rfl | (simp; done) | (simp [*]; done)), H', ⟨by have := HK1.out; omega⟩, ⟨by have z := n0.out; rw [← HL.out] at z; exact z⟩, n1, n2⟩
        · rw [if_neg c4] at H
          exact absurd H (by simp)
      · rw [if_neg c3] at H
        have c3b0 : decide (x5_1 < (x0_1.length : Int)) = false := decide_eq_false c3
        clear c3
        obtain ⟨rfl, rfl⟩ := Prod.mk.inj (Option.some.inj H)
        clear H
        go_wp2
        go_ret
        exact ⟨rfl, by have z := HO.out; rw [← HL.out] at z; exact z, HB.out, HK.out⟩


/-! ### laws_heldIntS: function 43 -/
def laws_heldIntS.l0 : Nat → List Int → Int → Int → Option (Int)
  | 0, _, _, _ => none
  | k + 1, x0, x1, x5 => if x5 < (x0.length : Int) then (if 0 ≤ x5 then (if (rd x0 x5) = x1 then (laws_heldIntS.l0 k x0 (wrap64 (x1 + 1)) (wrap64 (x5 + 1))) else (some (-1))) else (none)) else (some x1)
def laws_heldIntS.f (k : Nat) (l0 : List Int) (a1 : Int) : Option (Int) := laws_heldIntS.l0 k l0 a1 0
theorem laws_heldIntS.mono_l : ∀ k, (∀ y0 y1 y2, LeO (laws_heldIntS.l0 k y0 y1 y2) (laws_heldIntS.l0 (k + 1) y0 y1 y2))
  | 0 => fun _ _ _ r h => by simp [laws_heldIntS.l0] at h
  | k + 1 => by
    have ih0 := laws_heldIntS.mono_l k
    · intro y0 y1 y2
      unfold laws_heldIntS.l0
      repeat' first
      | (with_reducible exact ih0 _ _ _)
      | (with_reducible exact LeO.refl _)
      | (with_reducible exact LeO.none _)
      | (with_reducible refine LeO.ite ?_ ?_)
      | (with_reducible refine LeO.bind ?_ (fun _ => ?_))
      | exact ih0 _ _ _
      | exact LeO.none _
      | refine LeO.ite ?_ ?_
      | refine LeO.bind ?_ (fun _ => ?_)
theorem laws_heldIntS.mono : ∀ a0 a1 k, LeO (laws_heldIntS.f k a0 a1) (laws_heldIntS.f (k + 1) a0 a1) := by
  intro a0 a1 k
  have ih0 := laws_heldIntS.mono_l k
  unfold laws_heldIntS.f
  repeat' first
      | (with_reducible exact ih0 _ _ _)
      | (with_reducible exact LeO.refl _)
      | (with_reducible exact LeO.none _)
      | (with_reducible refine LeO.ite ?_ ?_)
      | (with_reducible refine LeO.bind ?_ (fun _ => ?_))
      | exact ih0 _ _ _
      | exact LeO.none _
      | refine LeO.ite ?_ ?_
      | refine LeO.bind ?_ (fun _ => ?_)
set_option maxHeartbeats 8000000 in
set_option maxRecDepth 100000 in
theorem laws_heldIntS.calls (k : Nat) (A0 : Option Addr) (c0 : Nat) (l0 : List Int) (a1 : Int) (r : Int) (w : World) (hr0 : Kd.C (Kd.int .i64) w A0 l0.length l0) (hc0 : l0.length ≤ c0) (h : laws_heldIntS.f k l0 a1 = some r) :
    Calls Tryd.prog 43 #[.slice A0 l0.length c0, .int .i64 a1] w fun e w' => e = .returned (.int .i64 r) ∧ Drawn0 w w' := by
  have HR0 := Aside0.mk hr0
  have HC0 := Aside0.mk hc0
  clear hr0 hc0
  have H : (laws_heldIntS.l0 k l0 a1 0) = some r := h
  clear h
  have H' := Aside0.mk H
  clear H
  go_enter Tryd.func43, Tryd.ntmps43
  go_wp2
  go_loopg [1, 5] k (fun kq v1 v5 w' => ∃ (x1_1 : Int) (x5_1 : Int), v1 = .int .i64 x1_1 ∧ v5 = .int .i64 x5_1 ∧ Aside0 (laws_heldIntS.l0 kq l0 x1_1 x5_1 = some r) ∧ Aside0 (kq ≤ k) ∧ Drawn0 w w')
  case atStart => exact ⟨(a1), (0), (by first | rfl | (simp; done) | (simp [*]; done)), (by first | rfl | (simp; done) | (simp [*]; done)), H', ⟨Nat.le_refl _⟩, by repeat (first | exact Drawn0.refl _ | apply Drawn0.step)⟩
  case round =>
    clear H'
    try clear p2
    obtain ⟨x1_1, x5_1, rfl, rfl, HA, HK1, ⟨m1, rfl⟩⟩ := hrel
    cases gk with
    | zero => exact absurd HA.out (by simp [laws_heldIntS.l0])
    | succ k1 =>
      have H := HA.out
      clear HA
      simp only [laws_heldIntS.l0] at H
      by_cases c3 : x5_1 < (l0.length : Int)
      · rw [if_pos c3] at H
        have c3b0 : decide (x5_1 < (l0.length : Int)) = true := decide_eq_true c3
        clear c3
        by_cases c4 : 0 ≤ x5_1
        · rw [if_pos c4] at H
          have c4b0 : decide (0 ≤ x5_1) = true := decide_eq_true c4
          clear c4
          by_cases c5 : (rd l0 x5_1) = x1_1
          · rw [if_pos c5] at H
            have c5b0 : ((rd l0 x5_1) == x1_1) = true := beq_iff_eq.mpr c5
            have c5b1 : ((rd l0 x5_1) != x1_1) = false := bne_eq_false_iff_eq.mpr c5
            clear c5
            have H' := Aside0.mk H
            clear H
            have p176 : 0 ≤ (x5_1 : Int) := of_decide_eq_true (by first | (with_reducible assumption) | assumption)
            have q176 : x5_1 < (l0.length : Int) := of_decide_eq_true (by first | (with_reducible assumption) | assumption)
            obtain ⟨ad176, e176, hx176_0⟩ := Kd.at_int HR0.out x5_1 p176 q176
            cases e176
            replace p176 := eq_true p176
            replace q176 := eq_true q176
            go_wp2
            go_roundg k1
            case measure => have := HK1.out; omega
            case rel => exact ⟨(wrap64 (x1_1 + 1)), (wrap64 (x5_1 + 1)), (by first | rfl | (simp; done) | (simp [*]; done)), (by first | rfl | (simp; done) | (simp [*]; done)), H', ⟨by have := HK1.out; omega⟩, by repeat (first | exact Drawn0.refl _ | apply Drawn0.step)⟩
          · rw [if_neg c5] at H
            have c5b0 : ((rd l0 x5_1) == x1_1) = false := beq_eq_false_iff_ne.mpr c5
            have c5b1 : ((rd l0 x5_1) != x1_1) = true := bne_iff_ne.mpr c5
            obtain rfl := Option.some.inj H
            have p176 : 0 ≤ (x5_1 : Int) := of_decide_eq_true (by first | (with_reducible assumption) | assumption)
            have q176 : x5_1 < (l0.length : Int) := of_decide_eq_true (by first | (with_reducible assumption) | assumption)
            obtain ⟨ad176, e176, hx176_0⟩ := Kd.at_int HR0.out x5_1 p176 q176
            cases e176
            replace p176 := eq_true p176
            replace q176 := eq_true q176
            go_wp2
            go_ret
            exact ⟨by first | rfl | (simp; done) | (simp [*]; done), by repeat (first | exact Drawn0.refl _ | apply Drawn0.step)⟩
        · rw [if_neg c4] at H
          exact absurd H (by simp)
      · rw [if_neg c3] at H
        have c3b0 : decide (x5_1 < (l0.length : Int)) = false := decide_eq_false c3
        clear c3
        obtain rfl := Option.some.inj H
        go_wp2
        go_ret
        exact ⟨by first | rfl | (simp; done) | (simp [*]; done), by repeat (first | exact Drawn0.refl _ | apply Drawn0.step)⟩

end Go.Proofs.YtbghdbpaihkcjabDoor.PFnExactParseTests
