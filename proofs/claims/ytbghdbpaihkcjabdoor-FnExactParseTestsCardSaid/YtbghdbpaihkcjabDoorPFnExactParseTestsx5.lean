-- Written by a program of this claim, over the kit's print: the functions that a law reaches, their plain forms and the walks.
import Derived.Test.YtbghdbpaihkcjabDoorPFnExactParseTestsx0
import Derived.Test.YtbghdbpaihkcjabDoorPFnExactParseTestsx3
namespace Go.Proofs.YtbghdbpaihkcjabDoor.PFnExactParseTests
open Go.RowKit Go.Proofs.YtbghdbpaihkcjabDoorW.PrintWords Go.Proofs.YtbghdbpaihkcjabDoorW.PrintLast Go.Proofs.YtbghdbpaihkcjabDoorW.PrintMore
attribute [local go_sem] max2_int min2_int max_two min_two max_three min_three max_four min_four   -- for this text's walks alone
set_option linter.unusedVariables false
set_option linter.unusedSimpArgs false

/-! ### utf8_ValidRune: function 90 -/
def utf8_ValidRune.j0 : Nat → Int → Bool → Option (Bool)
  | 0, _, _ => none
  | k + 1, x0, x3 => if x3 = true then (some true) else (if 57343 < x0 then (if x0 ≤ 1114111 then (some true) else (some false)) else (some false))
def utf8_ValidRune.f (k : Nat) (a0 : Int) : Option (Bool) := if 0 ≤ a0 then (utf8_ValidRune.j0 k a0 (decide (a0 < 55296))) else (utf8_ValidRune.j0 k a0 false)
theorem utf8_ValidRune.mono_l : ∀ k, (∀ y0 y1, LeO (utf8_ValidRune.j0 k y0 y1) (utf8_ValidRune.j0 (k + 1) y0 y1))
  | 0 => fun _ _ r h => by simp [utf8_ValidRune.j0] at h
  | k + 1 => by
    have ih0 := utf8_ValidRune.mono_l k
    · intro y0 y1
      unfold utf8_ValidRune.j0
      repeat' first
      | (with_reducible exact ih0 _ _)
      | (with_reducible exact LeO.refl _)
      | (with_reducible exact LeO.none _)
      | (with_reducible refine LeO.ite ?_ ?_)
      | (with_reducible refine LeO.bind ?_ (fun _ => ?_))
      | exact ih0 _ _
      | exact LeO.none _
      | refine LeO.ite ?_ ?_
      | refine LeO.bind ?_ (fun _ => ?_)
theorem utf8_ValidRune.mono : ∀ a0 k, LeO (utf8_ValidRune.f k a0) (utf8_ValidRune.f (k + 1) a0) := by
  intro a0 k
  have ih0 := utf8_ValidRune.mono_l k
  unfold utf8_ValidRune.f
  repeat' first
      | (with_reducible exact ih0 _ _)
      | (with_reducible exact LeO.refl _)
      | (with_reducible exact LeO.none _)
      | (with_reducible refine LeO.ite ?_ ?_)
      | (with_reducible refine LeO.bind ?_ (fun _ => ?_))
      | exact ih0 _ _
      | exact LeO.none _
      | refine LeO.ite ?_ ?_
      | refine LeO.bind ?_ (fun _ => ?_)
set_option maxHeartbeats 8000000 in
set_option maxRecDepth 100000 in
theorem utf8_ValidRune.calls (k : Nat) (a0 : Int) (r : Bool) (w : World) (h : utf8_ValidRune.f k a0 = some r) :
    Calls Tryd.prog 90 #[.int .i32 a0] w fun e w' => e = .returned (.bool r) ∧ Drawn0 w w' := by
  have H : (if 0 ≤ a0 then (utf8_ValidRune.j0 k a0 (decide (a0 < 55296))) else (utf8_ValidRune.j0 k a0 false)) = some r := h
  clear h
  have HC2 := Aside0.mk H
  clear H
  go_enter Tryd.func90, Tryd.ntmps90
  go_upto_region 1 with (fail)
  go_cut [3] (fun v3 wc => ∃ (kq : Nat) (x3_1 : Bool), v3 = .bool x3_1 ∧ Aside0 (utf8_ValidRune.j0 kq a0 x3_1 = some r) ∧ Aside0 (kq ≤ k) ∧ Drawn0 w wc)
  case first =>
    have H := HC2.out
    clear HC2
    by_cases c3 : 0 ≤ a0
    · rw [if_pos c3] at H
      have c3b0 : decide (0 ≤ a0) = true := decide_eq_true c3
      clear c3
      (first | rw [c3b0] | (simp only [i64_w, i32_w]; rw [c3b0]) |rw [c3b1] | rw [c3b2] | skip)
      have H' := Aside0.mk H
      clear H
      go_wp2
      go_meet
      case rel => exact ⟨_, (decide (a0 < 55296)), (by first | rfl | (simp; done) | (simp [*]; done)), H', ⟨by first | omega | exact Nat.le_refl _⟩, by repeat (first | exact Drawn0.refl _ | apply Drawn0.step)⟩
    · rw [if_neg c3] at H
      have c3b0 : decide (0 ≤ a0) = false := decide_eq_false c3
      clear c3
      (first | rw [c3b0] | (simp only [i64_w, i32_w]; rw [c3b0]) |rw [c3b1] | rw [c3b2] | skip)
      have H' := Aside0.mk H
      clear H
      go_wp2
      go_meet
      case rel => exact ⟨_, (false), (by first | rfl | (simp; done) | (simp [*]; done)), H', ⟨by first | omega | exact Nat.le_refl _⟩, by repeat (first | exact Drawn0.refl _ | apply Drawn0.step)⟩
  case rest =>
    clear HC2
    try clear p2
    try clear c3
    try clear c3b0
    obtain ⟨kq, x3_1, rfl, HA, HJ1, ⟨mc1, rfl⟩⟩ := hcut
    cases kq with
    | zero => exact absurd HA.out (by simp [utf8_ValidRune.j0])
    | succ kj1 =>
      have H := HA.out
      clear HA
      simp only [utf8_ValidRune.j0] at H
      by_cases c4 : x3_1 = true
      · subst c4
        have H1 : (some true) = some r := by rw [if_pos rfl] at H; exact H
        clear H
        have H := H1
        clear H1
        obtain rfl := Option.some.inj H
        go_wp2
        go_ret
        exact ⟨by first | rfl | (simp; done) | (simp [*]; done), by repeat (first | exact Drawn0.refl _ | apply Drawn0.step)⟩
      · replace c4 := Bool.eq_false_iff.mpr c4
        subst c4
        have H1 : (if 57343 < a0 then (if a0 ≤ 1114111 then (some true) else (some false)) else (some false)) = some r := by rw [if_neg (show ¬ (false = true) by decide)] at H; exact H
        clear H
        have H := H1
        clear H1
        by_cases c5 : 57343 < a0
        · rw [if_pos c5] at H
          have c5b0 : decide (57343 < a0) = true := decide_eq_true c5
          clear c5
          by_cases c6 : a0 ≤ 1114111
          · rw [if_pos c6] at H
            have c6b0 : decide (a0 ≤ 1114111) = true := decide_eq_true c6
            clear c6
            obtain rfl := Option.some.inj H
            go_wp2
            go_ret
            exact ⟨by first | rfl | (simp; done) | (simp [*]; done), by repeat (first | exact Drawn0.refl _ | apply Drawn0.step)⟩
          · rw [if_neg c6] at H
            have c6b0 : decide (a0 ≤ 1114111) = false := decide_eq_false c6
            clear c6
            obtain rfl := Option.some.inj H
            go_wp2
            go_ret
            exact ⟨by first | rfl | (simp; done) | (simp [*]; done), by repeat (first | exact Drawn0.refl _ | apply Drawn0.step)⟩
        · rw [if_neg c5] at H
          have c5b0 : decide (57343 < a0) = false := decide_eq_false c5
          clear c5
          obtain rfl := Option.some.inj H
          go_wp2
          go_ret
          exact ⟨by first | rfl | (simp; done) | (simp [*]; done), by repeat (first | exact Drawn0.refl _ | apply Drawn0.step)⟩

/-! ### bytealg_Cutover: function 91 -/
def bytealg_Cutover.f (a0 : Int) : Option (Int) := some (wrap64 (Int.tdiv (wrap64 (a0 + 16)) 8))
set_option maxHeartbeats 8000000 in
set_option maxRecDepth 100000 in
theorem bytealg_Cutover.calls (a0 : Int) (r : Int) (w : World) (h : bytealg_Cutover.f a0 = some r) :
    Calls Tryd.prog 91 #[.int .i64 a0] w fun e w' => e = .returned (.int .i64 r) ∧ Drawn0 w w' := by
  have H : (some (wrap64 (Int.tdiv (wrap64 (a0 + 16)) 8))) = some r := h
  clear h
  obtain rfl := Option.some.inj H
  go_enter Tryd.func91, Tryd.ntmps91
  go_wp2
  go_ret
  exact ⟨by first | rfl | (simp; done) | (simp [*]; done), by repeat (first | exact Drawn0.refl _ | apply Drawn0.step)⟩

-- NOT PRINTED: function 92 (bytealg_IndexString)

-- NOT PRINTED: function 79 (strings_IndexRune)

/-! ### strings_ContainsRune: function 64 -/
def LayRune_ren : Go.Shelf.Ren := ⟨fun | 151 => 64 | 152 => 79 | 137 => 89 | 119 => 90 | 224 => 91 | 225 => 92 | 217 => 102 | 266 => 114 | n => n, fun | 9 => 9 | 21 => 21 | 4 => 4 | 3 => 3 | 5 => 5 | 0 => 0 | 46 => 107 | n => n, fun | n => n⟩
theorem LayRune : Go.Proofs.Lays.n151 Tryd.prog LayRune_ren := {
  mixed := by kernel_rfl
  f119 := Tryd.func90.trans (congrArg some (by kernel_rfl))
  f137 := Tryd.func89.trans (congrArg some (by kernel_rfl))
  f151 := Tryd.func64.trans (congrArg some (by kernel_rfl))
  f152 := Tryd.func79.trans (congrArg some (by kernel_rfl))
  f217 := Tryd.func102.trans (congrArg some (by kernel_rfl))
  f224 := Tryd.func91.trans (congrArg some (by kernel_rfl))
  f225 := Tryd.func92.trans (congrArg some (by kernel_rfl))
  f266 := Tryd.func114.trans (congrArg some (by kernel_rfl))
  t0 := Tryd.underlying0
  a0 := Tryd.isAgg0
  z0 := Tryd.sizeOf0
  v0 := Tryd.zeroValue0
  t3 := Tryd.underlying3
  a3 := Tryd.isAgg3
  z3 := Tryd.sizeOf3
  v3 := Tryd.zeroValue3
  t4 := Tryd.underlying4
  a4 := Tryd.isAgg4
  z4 := Tryd.sizeOf4
  v4 := Tryd.zeroValue4
  t5 := Tryd.underlying5
  a5 := Tryd.isAgg5
  z5 := Tryd.sizeOf5
  v5 := Tryd.zeroValue5
  t9 := Tryd.underlying9
  a9 := Tryd.isAgg9
  z9 := Tryd.sizeOf9
  v9 := Tryd.zeroValue9
  t21 := Tryd.underlying21
  a21 := Tryd.isAgg21
  z21 := Tryd.sizeOf21
  v21 := Tryd.zeroValue21
  t46 := Tryd.underlying107
  a46 := Tryd.isAgg107
  z46 := Tryd.sizeOf107
  v46 := Tryd.zeroValue107 }
/-- Is the rune one of the text's bytes. -/
def strings_ContainsRune.p (s : ByteArray) (x : Nat) : Bool := s.data.toList.any (fun b => b.toNat == x)
theorem strings_ContainsRune.ascii (s : ByteArray) (hs : s = ⟨#[43]⟩ ∨ s = ⟨#[62, 64, 59]⟩) (x : Nat) (hx : x < 128) : decide (0 ≤ Lib.indexByte s.data.toList (Int.toNat (x : Int)).toUInt8) = strings_ContainsRune.p s x := by
  have h : ∀ s ∈ ([⟨#[43]⟩, ⟨#[62, 64, 59]⟩] : List ByteArray), ∀ x ∈ List.range 128, decide (0 ≤ Lib.indexByte s.data.toList (Int.toNat (x : Int)).toUInt8) = strings_ContainsRune.p s x := by decide +kernel
  exact h s (by rcases hs with rfl | rfl <;> simp) x (List.mem_range.2 hx)
theorem strings_ContainsRune.high (s : ByteArray) (hs : s = ⟨#[43]⟩ ∨ s = ⟨#[62, 64, 59]⟩) (x : Nat) (hx : 128 ≤ x) : strings_ContainsRune.p s x = false := by
  rcases hs with rfl | rfl
  · show ((43 : UInt8).toNat == x || false) = false
    have : (43 : UInt8).toNat = 43 := rfl
    simp [this]; omega
  · show ((62 : UInt8).toNat == x || ((64 : UInt8).toNat == x || ((59 : UInt8).toNat == x || false))) = false
    have h1 : (62 : UInt8).toNat = 62 := rfl
    have h2 : (64 : UInt8).toNat = 64 := rfl
    have h3 : (59 : UInt8).toNat = 59 := rfl
    simp [h1, h2, h3]; omega
theorem strings_ContainsRune.conv (w : World) (n : Int) : (convert 21 9 (.int .i32 n)).run Tryd.prog w = .ok (.string (Utf8.encode n)) w := by
  simp [convert, run_underlying Tryd.underlying21, run_underlying Tryd.underlying9, Conv.intToString, Result.andThen]
theorem strings_ContainsRune.enc_size (x : Int) (h : 128 ≤ x) : 2 ≤ (Utf8.encode x).size ∧ (Utf8.encode x).size ≤ 4 := by
  unfold Utf8.encode
  have hc : 128 ≤ (if Utf8.valid x = true then x.toNat else Utf8.runeError) := by
    split
    · omega
    · decide
  generalize (if Utf8.valid x = true then x.toNat else Utf8.runeError) = c at hc
  simp only
  rw [if_neg (by omega)]
  split
  · exact ⟨show 2 ≤ 2 by decide, show 2 ≤ 4 by decide⟩
  · split
    · exact ⟨show 2 ≤ 3 by decide, show 3 ≤ 4 by decide⟩
    · exact ⟨show 2 ≤ 4 by decide, show 4 ≤ 4 by decide⟩
theorem strings_ContainsRune.convL {ops : Array Oper} {rest : List Oper} {o : Oper} {a : Act} {w : World} {Q : Exit → Act → World → Prop} (hg : o.guard = none) (src dst : TypeId) (x : Operand) (hop : o.op = Op.convert src dst x) (v r : Value) (hx : a.eval x = v) (hrun : (convert src dst v).run Tryd.prog w = .ok r w)
    (h : wpList Tryd.prog ops Q rest (a.put o.dst r) w) : wpList Tryd.prog ops Q (o :: rest) a w := by
  refine wpList_plain hg fun K' hK' => ?_
  unfold Oper.wp
  simp only [execOp, hop, hx]
  simp [hrun, Result.andThen]
  exact hK' _ _ h
set_option maxHeartbeats 4000000 in
set_option maxRecDepth 1000000 in
theorem strings_ContainsRune.index (x : Nat) (h0 : 128 ≤ x) (hx : x ≤ 1114111) (w : World) : Calls Tryd.prog 79 #[.string ⟨#[43]⟩, .int .i32 (x : Int)] w fun e w' => e = .returned (.int .i64 (-1)) ∧ Below w.heap.size w w' := by
  have d1 : decide ((x : Int) < 128) = false := decide_eq_false (by omega)
  have d2 : ((x : Int) < 128) = False := eq_false (by omega)
  have d3 : (x < 128) = False := eq_false (by omega)
  go_enter Tryd.func79, Tryd.ntmps79
  by_cases h1 : x = 65533
  · subst h1
    go_wp2
    go_loopg [5, 6] 2 (fun gf v5 v6 wx => ∃ pos : Nat, wx.heap[w.heap.size]? = some (.stringIter ⟨#[43]⟩ pos) ∧ Below w.heap.size w wx ∧ pos ≤ 1 ∧ 2 ≤ pos + gf)
    case atStart => exact ⟨0, World.iter_heap w _ 0, (Below.refl _ w).alloc (Nat.le_refl _) _, by omega, by omega⟩
    case round =>
      obtain ⟨pos, hit, hbw, hp1, hfu⟩ := hrel
      by_cases hps : pos < 1
      · obtain rfl : pos = 0 := by omega
        have hnx : ∀ ty, (Instr.next (.pointer (some ⟨w.heap.size, 0, none⟩)) true ty).run Tryd.prog wr = .ok (.tuple #[.bool true, .int .i64 0, .int .i32 43]) (wr.iterAt w.heap.size ⟨#[43]⟩ 1) := fun ty => Go.Lib.run_next_ascii_at wr w.heap.size ⟨#[43]⟩ 0 ty hit (by decide) (by decide)
        have hit2 := Go.Lib.iterAt_heap wr w.heap.size ⟨#[43]⟩ 0 1 hit
        have hbw2 : Below w.heap.size w (wr.iterAt w.heap.size ⟨#[43]⟩ 1) := Go.Lib.below_iterAt hbw (Nat.le_refl _) _ _
        generalize wr.iterAt w.heap.size ⟨#[43]⟩ 1 = W at hnx hit2 hbw2
        go_wp2
        go_roundg 1
        case measure => omega
        case rel => exact ⟨1, hit2, hbw2, by omega, by omega⟩
      · have hnx : ∀ ty, (Instr.next (.pointer (some ⟨w.heap.size, 0, none⟩)) true ty).run Tryd.prog wr = _ := fun ty => Go.Lib.run_next_end_at wr w.heap.size ⟨#[43]⟩ pos ty hit hps
        clear hit
        go_wp2
        go_ret
        exact ⟨rfl, hbw⟩
  · have e1 : ((x : Int) == 65533) = false := beq_eq_false_iff_ne.mpr (by omega)
    have e2 : ((x : Int) = 65533) = False := eq_false (by omega)
    by_cases hv : x < 55296 ∨ 57343 < x
    · have hf : utf8_ValidRune.f 2 (x : Int) = some true := by
        unfold utf8_ValidRune.f
        simp only [utf8_ValidRune.j0]
        rcases hv with h | h
        · rw [if_pos (by omega), decide_eq_true (show (x : Int) < 55296 by omega), if_pos rfl]
        · rw [if_pos (by omega), decide_eq_false (show ¬ (x : Int) < 55296 by omega), if_neg (by decide), if_pos (by omega), if_pos (by omega)]
      go_wp2_with fail
      refine (utf8_ValidRune.calls 2 (x : Int) true w hf).mono ?_
      rintro e w1 ⟨rfl, hd⟩
      have hb1 : Below w.heap.size w w1 := by obtain ⟨n, rfl⟩ := hd.out; exact pw_below_drewN (Below.refl _ _) n
      have hcv := strings_ContainsRune.conv w1 (x : Int)
      have hsz := strings_ContainsRune.enc_size (x : Int) (by omega)
      generalize Utf8.encode (x : Int) = rs at hcv hsz
      have hw : wrap64 ((rs.size : Int) - 1) = (rs.size : Int) - 1 := by unfold wrap64; omega
      have q1 : decide ((rs.size : Int) - 1 < 1) = false := decide_eq_false (by omega)
      have q2 : ((rs.size : Int) - 1 < 1) = False := eq_false (by omega)
      clear hd hf
      go_wp2
      go_step3
      go_wp2_with (refine strings_ContainsRune.convL rfl 21 9 (.tmp 17) rfl (.int .i32 (x : Int)) (.string rs) rfl hcv ?_)
      go_loopg [9] 1 (fun gf v9 wx => v9 = .int .i64 ((rs.size : Int) - 1) ∧ Below w.heap.size w wx)
      case atStart => exact ⟨rfl, hb1⟩
      case round =>
        obtain ⟨rfl, hbw⟩ := hrel
        go_wp2
        try rw [Exit.noGoto_ret]
        go_ret
        exact ⟨rfl, hbw⟩
    · have hf : utf8_ValidRune.f 2 (x : Int) = some false := by
        unfold utf8_ValidRune.f
        simp only [utf8_ValidRune.j0]
        rw [if_pos (by omega), decide_eq_false (show ¬ (x : Int) < 55296 by omega), if_neg (by decide), if_neg (by omega)]
      go_wp2_with fail
      refine (utf8_ValidRune.calls 2 (x : Int) false w hf).mono ?_
      rintro e w1 ⟨rfl, hd⟩
      go_wp2
      go_ret
      exact ⟨rfl, by obtain ⟨n, rfl⟩ := hd.out; exact pw_below_drewN (Below.refl _ _) n⟩
theorem strings_ContainsRune.calls (x : Nat) (hx : x ≤ 1114111) (w : World) : Calls Tryd.prog 64 #[.string ⟨#[43]⟩, .int .i32 (x : Int)] w fun e w' => e = .returned (.bool (strings_ContainsRune.p ⟨#[43]⟩ x)) ∧ Below w.heap.size w w' := by
  by_cases h : x < 128
  · refine (Any.strings_ContainsRune_ascii LayRune ⟨#[43]⟩ (x : Int) w (by omega) (by omega)).mono ?_
    rintro e w' ⟨rfl, rfl⟩
    exact ⟨by rw [strings_ContainsRune.ascii _ (.inl rfl) x h], Below.refl _ _⟩
  · have hp := strings_ContainsRune.high ⟨#[43]⟩ (.inl rfl) x (by omega)
    rw [hp]
    go_enter Tryd.func64, Tryd.ntmps64
    go_wp2_with fail
    refine (strings_ContainsRune.index x (by omega) hx w).mono ?_
    rintro e w1 ⟨rfl, hb⟩
    go_wp2
    go_ret
    exact ⟨rfl, hb⟩


-- NOT PRINTED: function 63 (impl_numbers_1)

/-! ### impl_number: function 65 -/
def LayAtoi_ren : Go.Shelf.Ren := ⟨fun | 172 => 80 | 244 => 93 | 245 => 94 | 247 => 104 | 279 => 105 | 280 => 106 | 281 => 107 | 282 => 108 | 287 => 116 | 316 => 117 | 171 => 59 | 205 => 118 | 321 => 121 | 322 => 122 | 243 => 75 | 246 => 84 | 283 => 97 | 284 => 98 | 285 => 99 | 286 => 100 | 129 => 110 | 317 => 109 | 318 => 111 | 319 => 112 | 320 => 113 | 337 => 119 | 338 => 120 | n => n, fun | 9 => 9 | 3 => 3 | 75 => 88 | 76 => 89 | 4 => 4 | 5 => 5 | 167 => 118 | 37 => 81 | 0 => 0 | 85 => 119 | 2 => 2 | 168 => 121 | 53 => 113 | 175 => 135 | 46 => 107 | 210 => 139 | 127 => 100 | 145 => 145 | 143 => 143 | 21 => 21 | 171 => 112 | 173 => 116 | 212 => 125 | 51 => 126 | 20 => 20 | 213 => 127 | 232 => 146 | 233 => 147 | 80 => 91 | n => n, fun | 15 => 4 | 16 => 5 | 17 => 1 | 18 => 6 | 19 => 7 | n => n⟩
theorem LayAtoi : Go.Proofs.LaysC.n172 Tryd.prog LayAtoi_ren := {
  mixed := by kernel_rfl
  f129 := Tryd.func110.trans (congrArg some (by kernel_rfl))
  f171 := Tryd.func59.trans (congrArg some (by kernel_rfl))
  f172 := Tryd.func80.trans (congrArg some (by kernel_rfl))
  f205 := Tryd.func118.trans (congrArg some (by kernel_rfl))
  f243 := Tryd.func75.trans (congrArg some (by kernel_rfl))
  f244 := Tryd.func93.trans (congrArg some (by kernel_rfl))
  f245 := Tryd.func94.trans (congrArg some (by kernel_rfl))
  f246 := Tryd.func84.trans (congrArg some (by kernel_rfl))
  f247 := Tryd.func104.trans (congrArg some (by kernel_rfl))
  f279 := Tryd.func105.trans (congrArg some (by kernel_rfl))
  f280 := Tryd.func106.trans (congrArg some (by kernel_rfl))
  f281 := Tryd.func107.trans (congrArg some (by kernel_rfl))
  f282 := Tryd.func108.trans (congrArg some (by kernel_rfl))
  f283 := Tryd.func97.trans (congrArg some (by kernel_rfl))
  f284 := Tryd.func98.trans (congrArg some (by kernel_rfl))
  f285 := Tryd.func99.trans (congrArg some (by kernel_rfl))
  f286 := Tryd.func100.trans (congrArg some (by kernel_rfl))
  f287 := Tryd.func116.trans (congrArg some (by kernel_rfl))
  f316 := Tryd.func117.trans (congrArg some (by kernel_rfl))
  f317 := Tryd.func109.trans (congrArg some (by kernel_rfl))
  f318 := Tryd.func111.trans (congrArg some (by kernel_rfl))
  f319 := Tryd.func112.trans (congrArg some (by kernel_rfl))
  f320 := Tryd.func113.trans (congrArg some (by kernel_rfl))
  f321 := Tryd.func121.trans (congrArg some (by kernel_rfl))
  f322 := Tryd.func122.trans (congrArg some (by kernel_rfl))
  f337 := Tryd.func119.trans (congrArg some (by kernel_rfl))
  f338 := Tryd.func120.trans (congrArg some (by kernel_rfl))
  t0 := Tryd.underlying0
  a0 := Tryd.isAgg0
  z0 := Tryd.sizeOf0
  v0 := Tryd.zeroValue0
  t2 := Tryd.underlying2
  a2 := Tryd.isAgg2
  z2 := Tryd.sizeOf2
  v2 := Tryd.zeroValue2
  t3 := Tryd.underlying3
  a3 := Tryd.isAgg3
  z3 := Tryd.sizeOf3
  v3 := Tryd.zeroValue3
  t4 := Tryd.underlying4
  a4 := Tryd.isAgg4
  z4 := Tryd.sizeOf4
  v4 := Tryd.zeroValue4
  t5 := Tryd.underlying5
  a5 := Tryd.isAgg5
  z5 := Tryd.sizeOf5
  v5 := Tryd.zeroValue5
  t9 := Tryd.underlying9
  a9 := Tryd.isAgg9
  z9 := Tryd.sizeOf9
  v9 := Tryd.zeroValue9
  t20 := Tryd.underlying20
  a20 := Tryd.isAgg20
  z20 := Tryd.sizeOf20
  v20 := Tryd.zeroValue20
  t21 := Tryd.underlying21
  a21 := Tryd.isAgg21
  z21 := Tryd.sizeOf21
  v21 := Tryd.zeroValue21
  t37 := Tryd.underlying81
  a37 := Tryd.isAgg81
  z37 := Tryd.sizeOf81
  v37 := Tryd.zeroValue81
  t46 := Tryd.underlying107
  a46 := Tryd.isAgg107
  z46 := Tryd.sizeOf107
  v46 := Tryd.zeroValue107
  t51 := Tryd.underlying126
  a51 := Tryd.isAgg126
  z51 := Tryd.sizeOf126
  v51 := Tryd.zeroValue126
  t53 := Tryd.underlying113
  a53 := Tryd.isAgg113
  z53 := Tryd.sizeOf113
  v53 := Tryd.zeroValue113
  t75 := Tryd.underlying88
  a75 := Tryd.isAgg88
  z75 := Tryd.sizeOf88
  v75 := Tryd.zeroValue88
  t76 := Tryd.underlying89
  a76 := Tryd.isAgg89
  z76 := Tryd.sizeOf89
  v76 := Tryd.zeroValue89
  t85 := Tryd.underlying119
  a85 := Tryd.isAgg119
  z85 := Tryd.sizeOf119
  v85 := Tryd.zeroValue119
  t127 := Tryd.underlying100
  a127 := Tryd.isAgg100
  z127 := Tryd.sizeOf100
  v127 := Tryd.zeroValue100
  t143 := Tryd.underlying143
  a143 := Tryd.isAgg143
  z143 := Tryd.sizeOf143
  v143 := Tryd.zeroValue143
  t145 := Tryd.underlying145
  a145 := Tryd.isAgg145
  z145 := Tryd.sizeOf145
  v145 := Tryd.zeroValue145
  t167 := Tryd.underlying118
  a167 := Tryd.isAgg118
  z167 := Tryd.sizeOf118
  v167 := Tryd.zeroValue118
  t168 := Tryd.underlying121
  a168 := Tryd.isAgg121
  z168 := Tryd.sizeOf121
  v168 := Tryd.zeroValue121
  t171 := Tryd.underlying112
  a171 := Tryd.isAgg112
  z171 := Tryd.sizeOf112
  v171 := Tryd.zeroValue112
  t173 := Tryd.underlying116
  a173 := Tryd.isAgg116
  z173 := Tryd.sizeOf116
  v173 := Tryd.zeroValue116
  t175 := Tryd.underlying135
  a175 := Tryd.isAgg135
  z175 := Tryd.sizeOf135
  v175 := Tryd.zeroValue135
  t210 := Tryd.underlying139
  a210 := Tryd.isAgg139
  z210 := Tryd.sizeOf139
  v210 := Tryd.zeroValue139
  t212 := Tryd.underlying125
  a212 := Tryd.isAgg125
  z212 := Tryd.sizeOf125
  v212 := Tryd.zeroValue125
  t213 := Tryd.underlying127
  a213 := Tryd.isAgg127
  z213 := Tryd.sizeOf127
  t232 := Tryd.underlying146
  a232 := Tryd.isAgg146
  z232 := Tryd.sizeOf146
  v232 := Tryd.zeroValue146
  t233 := Tryd.underlying147
  a233 := Tryd.isAgg147
  z233 := Tryd.sizeOf147
  v233 := Tryd.zeroValue147
  g15 := by kernel_rfl
  g16 := by kernel_rfl
  g17 := by kernel_rfl
  g18 := by kernel_rfl
  g19 := by kernel_rfl
  t80 := Tryd.underlying91
  a80 := Tryd.isAgg91
  z80 := Tryd.sizeOf91
  v80 := Tryd.zeroValue91
  i0 := by kernel_rfl
  i2 := by kernel_rfl
  i3 := by kernel_rfl
  i4 := by kernel_rfl
  i5 := by kernel_rfl
  i9 := by kernel_rfl
  i20 := by kernel_rfl
  i21 := by kernel_rfl
  i37 := by kernel_rfl
  i46 := by kernel_rfl
  i51 := by kernel_rfl
  i53 := by kernel_rfl
  i75 := by kernel_rfl
  i76 := by kernel_rfl
  i80 := by kernel_rfl
  i85 := by kernel_rfl
  i127 := by kernel_rfl
  i143 := by kernel_rfl
  i145 := by kernel_rfl
  i167 := by kernel_rfl
  i168 := by kernel_rfl
  i171 := by kernel_rfl
  i173 := by kernel_rfl
  i175 := by kernel_rfl
  i210 := by kernel_rfl
  i212 := by kernel_rfl
  i232 := by kernel_rfl
  i233 := by kernel_rfl
  m15 := by kernel_rfl
  m16 := by kernel_rfl
  m17 := by kernel_rfl
  m18 := by kernel_rfl
  m19 := by kernel_rfl
  c0 := by kernel_rfl
  c2 := by kernel_rfl
  c3 := by kernel_rfl
  c4 := by kernel_rfl
  c5 := by kernel_rfl
  c9 := by kernel_rfl
  c20 := by kernel_rfl
  c21 := by kernel_rfl
  c37 := by kernel_rfl
  c46 := by kernel_rfl
  c51 := by kernel_rfl
  c53 := by kernel_rfl
  c75 := by kernel_rfl
  c76 := by kernel_rfl
  c80 := by kernel_rfl
  c85 := by kernel_rfl
  c127 := by kernel_rfl
  c143 := by kernel_rfl
  c145 := by kernel_rfl
  c167 := by kernel_rfl
  c168 := by kernel_rfl
  c171 := by kernel_rfl
  c173 := by kernel_rfl
  c175 := by kernel_rfl
  c210 := by kernel_rfl
  c212 := by kernel_rfl
  c213 := by kernel_rfl
  c232 := by kernel_rfl
  c233 := by kernel_rfl }
def LayItoaM_ren : Go.Shelf.Ren := ⟨fun | 171 => 59 | 243 => 75 | 246 => 84 | 283 => 97 | 284 => 98 | 285 => 99 | 286 => 100 | 129 => 110 | 317 => 109 | 318 => 111 | 319 => 112 | 320 => 113 | 337 => 119 | 338 => 120 | n => n, fun | 3 => 3 | 9 => 9 | 2 => 2 | 4 => 4 | 171 => 112 | 0 => 0 | 53 => 113 | 37 => 81 | 5 => 5 | 173 => 116 | 212 => 125 | 51 => 126 | 20 => 20 | 213 => 127 | 46 => 107 | 232 => 146 | 233 => 147 | n => n, fun | 17 => 1 | 18 => 6 | 19 => 7 | n => n⟩
theorem LayItoaM : Go.Proofs.LaysM.n171 Tryd.prog LayItoaM_ren := {
  mixed := by kernel_rfl
  f129 := Tryd.func110.trans (congrArg some (by kernel_rfl))
  f171 := Tryd.func59.trans (congrArg some (by kernel_rfl))
  f243 := Tryd.func75.trans (congrArg some (by kernel_rfl))
  f246 := Tryd.func84.trans (congrArg some (by kernel_rfl))
  f283 := Tryd.func97.trans (congrArg some (by kernel_rfl))
  f284 := Tryd.func98.trans (congrArg some (by kernel_rfl))
  f285 := Tryd.func99.trans (congrArg some (by kernel_rfl))
  f286 := Tryd.func100.trans (congrArg some (by kernel_rfl))
  f317 := Tryd.func109.trans (congrArg some (by kernel_rfl))
  f318 := Tryd.func111.trans (congrArg some (by kernel_rfl))
  f319 := Tryd.func112.trans (congrArg some (by kernel_rfl))
  f320 := Tryd.func113.trans (congrArg some (by kernel_rfl))
  f337 := Tryd.func119.trans (congrArg some (by kernel_rfl))
  f338 := Tryd.func120.trans (congrArg some (by kernel_rfl))
  t0 := Tryd.underlying0
  a0 := Tryd.isAgg0
  z0 := Tryd.sizeOf0
  v0 := Tryd.zeroValue0
  t2 := Tryd.underlying2
  a2 := Tryd.isAgg2
  z2 := Tryd.sizeOf2
  v2 := Tryd.zeroValue2
  t3 := Tryd.underlying3
  a3 := Tryd.isAgg3
  z3 := Tryd.sizeOf3
  v3 := Tryd.zeroValue3
  t4 := Tryd.underlying4
  a4 := Tryd.isAgg4
  z4 := Tryd.sizeOf4
  v4 := Tryd.zeroValue4
  t5 := Tryd.underlying5
  a5 := Tryd.isAgg5
  z5 := Tryd.sizeOf5
  v5 := Tryd.zeroValue5
  t9 := Tryd.underlying9
  a9 := Tryd.isAgg9
  z9 := Tryd.sizeOf9
  v9 := Tryd.zeroValue9
  t20 := Tryd.underlying20
  a20 := Tryd.isAgg20
  z20 := Tryd.sizeOf20
  v20 := Tryd.zeroValue20
  t37 := Tryd.underlying81
  a37 := Tryd.isAgg81
  z37 := Tryd.sizeOf81
  v37 := Tryd.zeroValue81
  t46 := Tryd.underlying107
  a46 := Tryd.isAgg107
  z46 := Tryd.sizeOf107
  v46 := Tryd.zeroValue107
  t51 := Tryd.underlying126
  a51 := Tryd.isAgg126
  z51 := Tryd.sizeOf126
  v51 := Tryd.zeroValue126
  t53 := Tryd.underlying113
  a53 := Tryd.isAgg113
  z53 := Tryd.sizeOf113
  v53 := Tryd.zeroValue113
  t171 := Tryd.underlying112
  a171 := Tryd.isAgg112
  z171 := Tryd.sizeOf112
  v171 := Tryd.zeroValue112
  t173 := Tryd.underlying116
  a173 := Tryd.isAgg116
  z173 := Tryd.sizeOf116
  v173 := Tryd.zeroValue116
  t212 := Tryd.underlying125
  a212 := Tryd.isAgg125
  z212 := Tryd.sizeOf125
  v212 := Tryd.zeroValue125
  t213 := Tryd.underlying127
  a213 := Tryd.isAgg127
  z213 := Tryd.sizeOf127
  t232 := Tryd.underlying146
  a232 := Tryd.isAgg146
  z232 := Tryd.sizeOf146
  v232 := Tryd.zeroValue146
  t233 := Tryd.underlying147
  a233 := Tryd.isAgg147
  z233 := Tryd.sizeOf147
  v233 := Tryd.zeroValue147
  g17 := by kernel_rfl
  g18 := by kernel_rfl
  g19 := by kernel_rfl
  i0 := by kernel_rfl
  i2 := by kernel_rfl
  i3 := by kernel_rfl
  i4 := by kernel_rfl
  i5 := by kernel_rfl
  i9 := by kernel_rfl
  i20 := by kernel_rfl
  i37 := by kernel_rfl
  i46 := by kernel_rfl
  i51 := by kernel_rfl
  i53 := by kernel_rfl
  i171 := by kernel_rfl
  i173 := by kernel_rfl
  i212 := by kernel_rfl
  i232 := by kernel_rfl
  i233 := by kernel_rfl
  m17 := by kernel_rfl
  m18 := by kernel_rfl
  m19 := by kernel_rfl }
/-- A variable that holds an error. -/
def impl_number.V (g : Nat) (w : World) : Prop := ∃ ev, w.cell? ⟨g, 0, none⟩ = some ev ∧ (ev = .nilIface ∨ ∃ te pe, ev = .iface te pe)
/-- What the library's own variables hold. -/
def impl_number.G (w : World) : Prop := impl_number.V (LayAtoi_ren.g 15) w ∧ impl_number.V (LayAtoi_ren.g 16) w ∧ ∀ W, Below w.heap.size w W → Lib.TabIs Tryd.prog W "internal/strconv.uint64pow10" .u64 Lib.pow10Tab
theorem impl_number.V.below {g : Nat} {w w' : World} (h : impl_number.V g w) (hb : Below w.heap.size w w') : impl_number.V g w' := by
  obtain ⟨ev, h1, h2⟩ := h
  exact ⟨ev, (hb.cell (p := ⟨g, 0, none⟩) (World.block_lt_of_cell? w _ h1)).trans h1, h2⟩
theorem impl_number.G.below {w w' : World} (h : impl_number.G w) (hb : Below w.heap.size w w') : impl_number.G w' :=
  ⟨h.1.below hb, h.2.1.below hb, fun W hW => h.2.2 W (hb.trans (hW.mono hb.size))⟩
/-- The number that a word is. -/
def impl_number.f (s : ByteArray) (most : Int) : Int × Bool := match Lib.atoiAll s.data.toList with
  | .ok n => if (⟨(Lib.itoa n).toArray⟩ : ByteArray).toList = s.toList ∧ 0 ≤ n ∧ n ≤ most then (n, true) else (0, false)
  | _ => (0, false)
theorem impl_number.below_grow (w : World) (k : Nat) (os : Array Obj) : Below w.heap.size w (Sort.grow (w.drewN k) os) := by
  have h := pw_below_drewN (Below.refl w.heap.size w) k
  refine ⟨h.os, h.tape, h.output, by have := h.size; simp only [Sort.grow, Array.size_append]; omega, fun i hi => ?_⟩
  rw [← h.block i hi]
  simp only [Sort.grow]
  exact Array.getElem?_append_left (Nat.lt_of_lt_of_le hi h.size)
set_option maxHeartbeats 4000000 in
set_option maxRecDepth 100000 in
theorem impl_number.calls (s : ByteArray) (hs : s.size ≤ 281474976710656) (most : Int) (w : World) (hG : impl_number.G w) : Calls Tryd.prog 65 #[.string s, .int .i64 most] w fun e w' => e = .returned (.tuple #[.int .i64 (impl_number.f s most).1, .bool (impl_number.f s most).2]) ∧ Below w.heap.size w w' := by
  have HG := Aside0.mk hG
  clear hG
  obtain ⟨R1, R2, hR⟩ : ∃ R1 R2, impl_number.f s most = (R1, R2) := ⟨_, _, rfl⟩
  rw [hR]
  unfold impl_number.f at hR
  cases hA : Lib.atoiAll s.data.toList with
  | range =>
    rw [hA] at hR
    obtain ⟨rfl, rfl⟩ := Prod.mk.inj hR
    obtain ⟨ev, h1, h2⟩ := HG.out.2.1
    clear hR
    go_enter Tryd.func65, Tryd.ntmps65
    go_wp2_with fail
    refine (Any.strconv_Atoi_range LayAtoi s hs hA ev w h1 h2).mono ?_
    rintro e w1 ⟨N, rfl, _, _, hb⟩
    go_wp2
    go_ret2
    exact ⟨rfl, hb⟩
  | ok n =>
    rw [hA] at hR
    simp only at hR
    have hbd := Lib.atoiAll_bounds hA
    go_enter Tryd.func65, Tryd.ntmps65
    go_wp2_with fail
    refine (Any.strconv_Atoi_ok LayAtoi s (by omega) n hA w).mono ?_
    rintro e w1 ⟨rfl, hw⟩
    have hb1 : Below w.heap.size w w1 := by
      rcases hw with rfl | ⟨t, rfl⟩
      · exact Below.refl _ _
      · exact Lib.bytesWorld_below _ _ _
    clear hw
    go_wp2_with fail
    have hIt := Any.strconv_Itoa LayItoaM n hbd.1 hbd.2 w1 (HG.out.2.2 w1 hb1)
    generalize (⟨(Lib.itoa n).toArray⟩ : ByteArray) = T at hIt hR
    refine hIt.mono ?_
    rintro e w2 ⟨rfl, k, os, hw2⟩
    have HB2 := Aside0.mk (show Below w.heap.size w w2 from below_step hb1 (by rw [hw2]; exact impl_number.below_grow w1 k os))
    clear hw2 hIt hb1 hA
    by_cases hT : T.toList = s.toList
    · have b0 : (T.toList == s.toList) = true := beq_iff_eq.mpr hT
      have b1 : (T.toList != s.toList) = false := bne_eq_false_iff_eq.mpr hT
      by_cases hw : 0 ≤ n ∧ n ≤ most
      · rw [if_pos ⟨hT, hw⟩] at hR
        obtain ⟨rfl, rfl⟩ := Prod.mk.inj hR
        have hW : impl_within.f n 0 most = some true := by unfold impl_within.f; rw [if_pos hw.1, decide_eq_true hw.2]
        clear hR hT
        go_wp2_with fail
        refine (impl_within.calls n 0 most true w2 hW).mono ?_
        rintro e w3 ⟨rfl, hd⟩
        go_wp2
        go_ret2
        exact ⟨rfl, below_step HB2.out (by obtain ⟨n, rfl⟩ := hd.out; exact pw_below_drewN (Below.refl _ _) n)⟩
      · rw [if_neg (fun h => hw h.2)] at hR
        obtain ⟨rfl, rfl⟩ := Prod.mk.inj hR
        have hW : impl_within.f n 0 most = some false := by
          unfold impl_within.f
          by_cases h0 : 0 ≤ n
          · rw [if_pos h0, decide_eq_false (fun h => hw ⟨h0, h⟩)]
          · rw [if_neg h0]
        clear hR hT
        go_wp2_with fail
        refine (impl_within.calls n 0 most false w2 hW).mono ?_
        rintro e w3 ⟨rfl, hd⟩
        go_wp2
        go_ret2
        exact ⟨rfl, below_step HB2.out (by obtain ⟨n, rfl⟩ := hd.out; exact pw_below_drewN (Below.refl _ _) n)⟩
    · have b0 : (T.toList == s.toList) = false := beq_eq_false_iff_ne.mpr hT
      have b1 : (T.toList != s.toList) = true := bne_iff_ne.mpr hT
      rw [if_neg (fun h => hT h.1)] at hR
      obtain ⟨rfl, rfl⟩ := Prod.mk.inj hR
      clear hR hT
      go_wp2
      go_ret2
      exact ⟨rfl, HB2.out⟩
  | _ =>
    rw [hA] at hR
    obtain ⟨rfl, rfl⟩ := Prod.mk.inj hR
    obtain ⟨ev, h1, h2⟩ := HG.out.1
    clear hR
    go_enter Tryd.func65, Tryd.ntmps65
    go_wp2_with fail
    refine (Any.strconv_Atoi_syntax LayAtoi s hs hA ev w h1 h2).mono ?_
    rintro e w1 ⟨N, rfl, _, _, hb⟩
    go_wp2
    go_ret2
    exact ⟨rfl, hb⟩


end Go.Proofs.YtbghdbpaihkcjabDoor.PFnExactParseTests
