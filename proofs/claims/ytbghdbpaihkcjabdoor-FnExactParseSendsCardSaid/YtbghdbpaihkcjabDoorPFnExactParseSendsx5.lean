-- Written by a program of this claim, over the kit's print: the functions that a law reaches, their plain forms and the walks.
import Derived.Test.YtbghdbpaihkcjabDoorPFnExactParseSendsx0
import Derived.Test.YtbghdbpaihkcjabDoorPFnExactParseSendsx3
import Derived.Test.YtbghdbpaihkcjabDoorPFnExactParseSendsx4
namespace Go.Proofs.YtbghdbpaihkcjabDoor.PFnExactParseSends
open Go.RowKit Go.Proofs.YtbghdbpaihkcjabDoorW.PrintWords Go.Proofs.YtbghdbpaihkcjabDoorW.PrintLast Go.Proofs.YtbghdbpaihkcjabDoorW.PrintMore
attribute [local go_sem] max2_int min2_int max_two min_two max_three min_three max_four min_four   -- for this text's walks alone
set_option linter.unusedVariables false
set_option linter.unusedSimpArgs false

/-! ### strings_ContainsRune: function 64 -/
def LayRune_ren : Go.Shelf.Ren := ⟨fun | 151 => 64 | 152 => 79 | 137 => 89 | 119 => 90 | 224 => 91 | 225 => 92 | 217 => 102 | 266 => 114 | n => n, fun | 9 => 9 | 21 => 21 | 4 => 4 | 3 => 3 | 5 => 5 | 0 => 0 | 46 => 107 | n => n, fun | n => n⟩
theorem LayRune : Go.Proofs.Lays.n151 Tryd.prog LayRune_ren := {
  mixed := by kernel_rfl
  f119 := Tryd.func90.trans (congrArg some (by kernel_rfl))
  f137 := Tryd.func89.trans (congrArg some (by kernel_rfl))
  f151 := Tryd.func64.trans (congrArg some (by kernel_rfl))
  f152 := Tryd.func79.trans (congrArg some (by kernel_rfl))
  f217 := Tryd.func102.trans (congrArg some (by kernel_rfl))
  f224 := Tryd.func91.trans (congrArg some (by kernel_rfl))
  f225 := Tryd.func92.trans (congrArg some (by kernel_rfl))
  f266 := Tryd.func114.trans (congrArg some (by kernel_rfl))
  t0 := Tryd.underlying0
  a0 := Tryd.isAgg0
  z0 := Tryd.sizeOf0
  v0 := Tryd.zeroValue0
  t3 := Tryd.underlying3
  a3 := Tryd.isAgg3
  z3 := Tryd.sizeOf3
  v3 := Tryd.zeroValue3
  t4 := Tryd.underlying4
  a4 := Tryd.isAgg4
  z4 := Tryd.sizeOf4
  v4 := Tryd.zeroValue4
  t5 := Tryd.underlying5
  a5 := Tryd.isAgg5
  z5 := Tryd.sizeOf5
  v5 := Tryd.zeroValue5
  t9 := Tryd.underlying9
  a9 := Tryd.isAgg9
  z9 := Tryd.sizeOf9
  v9 := Tryd.zeroValue9
  t21 := Tryd.underlying21
  a21 := Tryd.isAgg21
  z21 := Tryd.sizeOf21
  v21 := Tryd.zeroValue21
  t46 := Tryd.underlying107
  a46 := Tryd.isAgg107
  z46 := Tryd.sizeOf107
  v46 := Tryd.zeroValue107 }
/-- Is the rune one of the text's bytes. -/
def strings_ContainsRune.p (s : ByteArray) (x : Nat) : Bool := s.data.toList.any (fun b => b.toNat == x)
theorem strings_ContainsRune.ascii (s : ByteArray) (hs : s = ⟨#[43]⟩ ∨ s = ⟨#[62, 64, 59]⟩) (x : Nat) (hx : x < 128) : decide (0 ≤ Lib.indexByte s.data.toList (Int.toNat (x : Int)).toUInt8) = strings_ContainsRune.p s x := by
  have h : ∀ s ∈ ([⟨#[43]⟩, ⟨#[62, 64, 59]⟩] : List ByteArray), ∀ x ∈ List.range 128, decide (0 ≤ Lib.indexByte s.data.toList (Int.toNat (x : Int)).toUInt8) = strings_ContainsRune.p s x := by decide +kernel
  exact h s (by rcases hs with rfl | rfl <;> simp) x (List.mem_range.2 hx)
theorem strings_ContainsRune.high (s : ByteArray) (hs : s = ⟨#[43]⟩ ∨ s = ⟨#[62, 64, 59]⟩) (x : Nat) (hx : 128 ≤ x) : strings_ContainsRune.p s x = false := by
  rcases hs with rfl | rfl
  · show ((43 : UInt8).toNat == x || false) = false
    have : (43 : UInt8).toNat = 43 := rfl
    simp [this]; omega
  · show ((62 : UInt8).toNat == x || ((64 : UInt8).toNat == x || ((59 : UInt8).toNat == x || false))) = false
    have h1 : (62 : UInt8).toNat = 62 := rfl
    have h2 : (64 : UInt8).toNat = 64 := rfl
    have h3 : (59 : UInt8).toNat = 59 := rfl
    simp [h1, h2, h3]; omega
theorem strings_ContainsRune.conv (w : World) (n : Int) : (convert 21 9 (.int .i32 n)).run Tryd.prog w = .ok (.string (Utf8.encode n)) w := by
  simp [convert, run_underlying Tryd.underlying21, run_underlying Tryd.underlying9, Conv.intToString, Result.andThen]
theorem strings_ContainsRune.enc_size (x : Int) (h : 128 ≤ x) : 2 ≤ (Utf8.encode x).size ∧ (Utf8.encode x).size ≤ 4 := by
  unfold Utf8.encode
  have hc : 128 ≤ (if Utf8.valid x = true then x.toNat else Utf8.runeError) := by
    split
    · omega
    · decide
  generalize (if Utf8.valid x = true then x.toNat else Utf8.runeError) = c at hc
  simp only
  rw [if_neg (by omega)]
  split
  · exact ⟨show 2 ≤ 2 by decide, show 2 ≤ 4 by decide⟩
  · split
    · exact ⟨show 2 ≤ 3 by decide, show 3 ≤ 4 by decide⟩
    · exact ⟨show 2 ≤ 4 by decide, show 4 ≤ 4 by decide⟩
theorem strings_ContainsRune.convL {ops : Array Oper} {rest : List Oper} {o : Oper} {a : Act} {w : World} {Q : Exit → Act → World → Prop} (hg : o.guard = none) (src dst : TypeId) (x : Operand) (hop : o.op = Op.convert src dst x) (v r : Value) (hx : a.eval x = v) (hrun : (convert src dst v).run Tryd.prog w = .ok r w)
    (h : wpList Tryd.prog ops Q rest (a.put o.dst r) w) : wpList Tryd.prog ops Q (o :: rest) a w := by
  refine wpList_plain hg fun K' hK' => ?_
  unfold Oper.wp
  simp only [execOp, hop, hx]
  simp [hrun, Result.andThen]
  exact hK' _ _ h
theorem strings_ContainsRune.enc_last (x : Int) (h : 128 ≤ x) : ∃ hq : (Utf8.encode x).size - 1 < (Utf8.encode x).size, 128 ≤ ((Utf8.encode x)[(Utf8.encode x).size - 1]'hq).toNat := by
  have hn : ∀ c : Nat, 128 ≤ (UInt8.ofNat (0x80 + c % 64)).toNat := fun c => by
    rw [UInt8.toNat_ofNat']
    omega
  unfold Utf8.encode
  have hc : 128 ≤ (if Utf8.valid x = true then x.toNat else Utf8.runeError) := by
    split
    · omega
    · decide
  generalize (if Utf8.valid x = true then x.toNat else Utf8.runeError) = c at hc
  have e0 : ¬ c < 128 := by omega
  by_cases e1 : c < 2048
  · simp only [e0, e1, if_true, if_false]
    exact ⟨(by first | exact (show 1 < 2 by decide) | exact (show 2 < 3 by decide) | exact (show 3 < 4 by decide)), hn c⟩
  · by_cases e2 : c < 65536
    · simp only [e0, e1, e2, if_true, if_false]
      exact ⟨(by first | exact (show 1 < 2 by decide) | exact (show 2 < 3 by decide) | exact (show 3 < 4 by decide)), hn c⟩
    · simp only [e0, e1, e2, if_false]
      exact ⟨(by first | exact (show 1 < 2 by decide) | exact (show 2 < 3 by decide) | exact (show 3 < 4 by decide)), hn c⟩
theorem strings_ContainsRune.no_byte1 (c : UInt8) (h : 128 ≤ c.toNat) : Lib.indexByte ((⟨#[62, 64, 59]⟩ : ByteArray).extract 2 3).data.toList ((c.toNat : Int).toNat.toUInt8) = -1 := by
  have h1 : ∀ n, n < 256 → 128 ≤ n → Lib.indexByte ((⟨#[62, 64, 59]⟩ : ByteArray).extract 2 3).data.toList n.toUInt8 = -1 := by decide +kernel
  exact h1 c.toNat (UInt8.toNat_lt c) h
theorem strings_ContainsRune.no_byte2 (c : UInt8) (h : 128 ≤ c.toNat) : Lib.indexByte ((⟨#[62, 64, 59]⟩ : ByteArray).extract 3 3).data.toList ((c.toNat : Int).toNat.toUInt8) = -1 := by
  have h1 : ∀ n, n < 256 → 128 ≤ n → Lib.indexByte ((⟨#[62, 64, 59]⟩ : ByteArray).extract 3 3).data.toList n.toUInt8 = -1 := by decide +kernel
  exact h1 c.toNat (UInt8.toNat_lt c) h
theorem strings_ContainsRune.byte1 (c : UInt8) (h : 128 ≤ c.toNat) (w : World) : Calls Tryd.prog 89 #[.string ((⟨#[62, 64, 59]⟩ : ByteArray).extract 2 3), .int .u8 (c.toNat : Int)] w fun e w' => e = .returned (.int .i64 (-1)) ∧ w' = w :=
  (Any.strings_IndexByte { LayRune with } ((⟨#[62, 64, 59]⟩ : ByteArray).extract 2 3) (c.toNat : Int) w).mono fun e w' h1 => by rw [strings_ContainsRune.no_byte1 c h] at h1; exact h1
theorem strings_ContainsRune.byte2 (c : UInt8) (h : 128 ≤ c.toNat) (w : World) : Calls Tryd.prog 89 #[.string ((⟨#[62, 64, 59]⟩ : ByteArray).extract 3 3), .int .u8 (c.toNat : Int)] w fun e w' => e = .returned (.int .i64 (-1)) ∧ w' = w :=
  (Any.strings_IndexByte { LayRune with } ((⟨#[62, 64, 59]⟩ : ByteArray).extract 3 3) (c.toNat : Int) w).mono fun e w' h1 => by rw [strings_ContainsRune.no_byte2 c h] at h1; exact h1
set_option maxHeartbeats 4000000 in
set_option maxRecDepth 1000000 in
theorem strings_ContainsRune.index (x : Nat) (h0 : 128 ≤ x) (hx : x ≤ 1114111) (w : World) : Calls Tryd.prog 79 #[.string ⟨#[62, 64, 59]⟩, .int .i32 (x : Int)] w fun e w' => e = .returned (.int .i64 (-1)) ∧ Below w.heap.size w w' := by
  have d1 : decide ((x : Int) < 128) = false := decide_eq_false (by omega)
  have d2 : ((x : Int) < 128) = False := eq_false (by omega)
  have d3 : (x < 128) = False := eq_false (by omega)
  go_enter Tryd.func79, Tryd.ntmps79
  by_cases h1 : x = 65533
  · subst h1
    go_wp2
    go_loopg [5, 6] 4 (fun gf v5 v6 wx => ∃ pos : Nat, wx.heap[w.heap.size]? = some (.stringIter ⟨#[62, 64, 59]⟩ pos) ∧ Below w.heap.size w wx ∧ pos ≤ 3 ∧ 4 ≤ pos + gf)
    case atStart => exact ⟨0, World.iter_heap w _ 0, (Below.refl _ w).alloc (Nat.le_refl _) _, by omega, by omega⟩
    case round =>
      obtain ⟨pos, hit, hbw, hp1, hfu⟩ := hrel
      by_cases hps : pos < 3
      · rcases (show pos = 0 ∨ pos = 1 ∨ pos = 2 by omega) with rfl | rfl | rfl
        · have hnx : ∀ ty, (Instr.next (.pointer (some ⟨w.heap.size, 0, none⟩)) true ty).run Tryd.prog wr = .ok (.tuple #[.bool true, .int .i64 0, .int .i32 62]) (wr.iterAt w.heap.size ⟨#[62, 64, 59]⟩ 1) := fun ty => Go.Lib.run_next_ascii_at wr w.heap.size ⟨#[62, 64, 59]⟩ 0 ty hit (by decide) (by decide)
          have hit2 := Go.Lib.iterAt_heap wr w.heap.size ⟨#[62, 64, 59]⟩ 0 1 hit
          have hbw2 : Below w.heap.size w (wr.iterAt w.heap.size ⟨#[62, 64, 59]⟩ 1) := Go.Lib.below_iterAt hbw (Nat.le_refl _) _ _
          generalize wr.iterAt w.heap.size ⟨#[62, 64, 59]⟩ 1 = W at hnx hit2 hbw2
          go_wp2
          go_roundg 3
          case measure => omega
          case rel => exact ⟨1, hit2, hbw2, by omega, by omega⟩
        · have hnx : ∀ ty, (Instr.next (.pointer (some ⟨w.heap.size, 0, none⟩)) true ty).run Tryd.prog wr = .ok (.tuple #[.bool true, .int .i64 1, .int .i32 64]) (wr.iterAt w.heap.size ⟨#[62, 64, 59]⟩ 2) := fun ty => Go.Lib.run_next_ascii_at wr w.heap.size ⟨#[62, 64, 59]⟩ 1 ty hit (by decide) (by decide)
          have hit2 := Go.Lib.iterAt_heap wr w.heap.size ⟨#[62, 64, 59]⟩ 1 2 hit
          have hbw2 : Below w.heap.size w (wr.iterAt w.heap.size ⟨#[62, 64, 59]⟩ 2) := Go.Lib.below_iterAt hbw (Nat.le_refl _) _ _
          generalize wr.iterAt w.heap.size ⟨#[62, 64, 59]⟩ 2 = W at hnx hit2 hbw2
          go_wp2
          go_roundg 2
          case measure => omega
          case rel => exact ⟨2, hit2, hbw2, by omega, by omega⟩
        · have hnx : ∀ ty, (Instr.next (.pointer (some ⟨w.heap.size, 0, none⟩)) true ty).run Tryd.prog wr = .ok (.tuple #[.bool true, .int .i64 2, .int .i32 59]) (wr.iterAt w.heap.size ⟨#[62, 64, 59]⟩ 3) := fun ty => Go.Lib.run_next_ascii_at wr w.heap.size ⟨#[62, 64, 59]⟩ 2 ty hit (by decide) (by decide)
          have hit2 := Go.Lib.iterAt_heap wr w.heap.size ⟨#[62, 64, 59]⟩ 2 3 hit
          have hbw2 : Below w.heap.size w (wr.iterAt w.heap.size ⟨#[62, 64, 59]⟩ 3) := Go.Lib.below_iterAt hbw (Nat.le_refl _) _ _
          generalize wr.iterAt w.heap.size ⟨#[62, 64, 59]⟩ 3 = W at hnx hit2 hbw2
          go_wp2
          go_roundg 1
          case measure => omega
          case rel => exact ⟨3, hit2, hbw2, by omega, by omega⟩
      · have hnx : ∀ ty, (Instr.next (.pointer (some ⟨w.heap.size, 0, none⟩)) true ty).run Tryd.prog wr = _ := fun ty => Go.Lib.run_next_end_at wr w.heap.size ⟨#[62, 64, 59]⟩ pos ty hit hps
        clear hit
        go_wp2
        go_ret
        exact ⟨rfl, hbw⟩
  · have e1 : ((x : Int) == 65533) = false := beq_eq_false_iff_ne.mpr (by omega)
    have e2 : ((x : Int) = 65533) = False := eq_false (by omega)
    by_cases hv : x < 55296 ∨ 57343 < x
    · have hf : utf8_ValidRune.f 2 (x : Int) = some true := by
        unfold utf8_ValidRune.f
        simp only [utf8_ValidRune.j0]
        rcases hv with h | h
        · rw [if_pos (by omega), decide_eq_true (show (x : Int) < 55296 by omega), if_pos rfl]
        · rw [if_pos (by omega), decide_eq_false (show ¬ (x : Int) < 55296 by omega), if_neg (by decide), if_pos (by omega), if_pos (by omega)]
      go_wp2_with fail
      refine (utf8_ValidRune.calls 2 (x : Int) true w hf).mono ?_
      rintro e w1 ⟨rfl, hd⟩
      have hb1 : Below w.heap.size w w1 := by obtain ⟨n, rfl⟩ := hd.out; exact pw_below_drewN (Below.refl _ _) n
      have hcv := strings_ContainsRune.conv w1 (x : Int)
      have hsz := strings_ContainsRune.enc_size (x : Int) (by omega)
      have hlb := strings_ContainsRune.enc_last (x : Int) (by omega)
      generalize Utf8.encode (x : Int) = rs at hcv hsz hlb
      have hw : wrap64 ((rs.size : Int) - 1) = (rs.size : Int) - 1 := by unfold wrap64; omega
      clear hd hf
      by_cases h4 : rs.size = 4
      · have q1 : decide ((rs.size : Int) - 1 < 3) = false := decide_eq_false (by omega)
        have q2 : ((rs.size : Int) - 1 < 3) = False := eq_false (by omega)
        have hw1 : wrap64 ((rs.size : Int) - 1) = 3 := by unfold wrap64; omega
        clear hw
        go_wp2
        go_step3
        go_wp2_with (refine strings_ContainsRune.convL rfl 21 9 (.tmp 17) rfl (.int .i32 (x : Int)) (.string rs) rfl hcv ?_)
        go_loopg [9] 1 (fun gf v9 wx => v9 = .int .i64 3 ∧ Below w.heap.size w wx)
        case atStart => exact ⟨rfl, hb1⟩
        case round =>
          obtain ⟨rfl, hbw⟩ := hrel
          go_wp2
          try rw [Exit.noGoto_ret]
          go_ret
          exact ⟨rfl, hbw⟩
      · obtain ⟨hq, hL⟩ := hlb
        have hL2 := UInt8.toNat_lt (rs[rs.size - 1]'hq)
        have hne : ∀ y : UInt8, y.toNat < 128 → y ≠ rs[rs.size - 1]'hq := fun y hy e => by rw [e] at hy; omega
        have hge : ∀ (i : Nat) (h : i < rs.size), i + 1 = rs.size → ((rs[i]'h).toNat : Int) = ((rs[rs.size - 1]'hq).toNat : Int) := fun i h e => by
          obtain rfl : i = rs.size - 1 := by omega
          rfl
        generalize rs[rs.size - 1]'hq = c at hL hL2 hne hge
        rcases (show rs.size = 2 ∨ rs.size = 3 by omega) with hn | hn
        · have hw1 : wrap64 ((rs.size : Int) - 1) = 1 := by unfold wrap64; omega
          have hg1 : ∀ h : 1 < rs.size, ((rs[1]'h).toNat : Int) = (c.toNat : Int) := fun h => hge _ h (by omega)
          have hwr : IntKind.i64.wrap 2 = 2 := by decide
          have hch : ∀ h : 1 < (⟨#[62, 64, 59]⟩ : ByteArray).size, ((((⟨#[62, 64, 59]⟩ : ByteArray)[1]'h).toNat : Nat) : Int) = 64 := fun _ => rfl
          have hs3 : (((⟨#[62, 64, 59]⟩ : ByteArray).size : Nat) : Int) = 3 := rfl
          have hs1 : ((1 : Int) < (rs.size : Int)) = True := eq_true (by omega)
          have hs2 : ((1 : Int) < (rs.size : Int)) = True := eq_true (by omega)
          have hb1' : ((64 : Int) != (c.toNat : Int)) = true := bne_iff_ne.mpr (by omega)
          clear hw hge
          go_wp2
          go_step3
          go_wp2_with (refine strings_ContainsRune.convL rfl 21 9 (.tmp 17) rfl (.int .i32 (x : Int)) (.string rs) rfl hcv ?_)
          go_loopg [9] 1 (fun gf v9 wx => v9 = .int .i64 1 ∧ Below w.heap.size w wx)
          case atStart => exact ⟨rfl, hb1⟩
          case round =>
            obtain ⟨rfl, hbw⟩ := hrel
            go_wp2
            go_step3
            go_wp2
            go_quiet (fail)
            have hb2 := pw_below_drewN hbw nq
            generalize wr.drewN nq = w2 at hb2 ⊢
            go_wp2
            go_quiet ((go_at_call 89; exact Calls.quiet_of_same (strings_ContainsRune.byte1 c (by assumption) _)))
            go_wp2
            rw [Exit.noGoto_ret]
            go_wp2
            rw [Exit.noGoto_ret]
            first | (go_wp2; done) | skip
            go_ret
            exact ⟨by first | rfl | (intro h; cases h) | trivial, by first | exact hb2 | exact pw_below_drewN hb2 _⟩
        · have hw1 : wrap64 ((rs.size : Int) - 1) = 2 := by unfold wrap64; omega
          have hg1 : ∀ h : 2 < rs.size, ((rs[2]'h).toNat : Int) = (c.toNat : Int) := fun h => hge _ h (by omega)
          have hwr : IntKind.i64.wrap 3 = 3 := by decide
          have hch : ∀ h : 2 < (⟨#[62, 64, 59]⟩ : ByteArray).size, ((((⟨#[62, 64, 59]⟩ : ByteArray)[2]'h).toNat : Nat) : Int) = 59 := fun _ => rfl
          have hs3 : (((⟨#[62, 64, 59]⟩ : ByteArray).size : Nat) : Int) = 3 := rfl
          have hs1 : ((1 : Int) < (rs.size : Int)) = True := eq_true (by omega)
          have hs2 : ((2 : Int) < (rs.size : Int)) = True := eq_true (by omega)
          have hb1' : ((59 : Int) != (c.toNat : Int)) = true := bne_iff_ne.mpr (by omega)
          clear hw hge
          go_wp2
          go_step3
          go_wp2_with (refine strings_ContainsRune.convL rfl 21 9 (.tmp 17) rfl (.int .i32 (x : Int)) (.string rs) rfl hcv ?_)
          go_loopg [9] 1 (fun gf v9 wx => v9 = .int .i64 2 ∧ Below w.heap.size w wx)
          case atStart => exact ⟨rfl, hb1⟩
          case round =>
            obtain ⟨rfl, hbw⟩ := hrel
            go_wp2
            go_step3
            go_wp2
            go_quiet (fail)
            have hb2 := pw_below_drewN hbw nq
            generalize wr.drewN nq = w2 at hb2 ⊢
            go_wp2
            go_quiet ((go_at_call 89; exact Calls.quiet_of_same (strings_ContainsRune.byte2 c (by assumption) _)))
            go_wp2
            rw [Exit.noGoto_ret]
            go_wp2
            rw [Exit.noGoto_ret]
            first | (go_wp2; done) | skip
            go_ret
            exact ⟨by first | rfl | (intro h; cases h) | trivial, by first | exact hb2 | exact pw_below_drewN hb2 _⟩
    · have hf : utf8_ValidRune.f 2 (x : Int) = some false := by
        unfold utf8_ValidRune.f
        simp only [utf8_ValidRune.j0]
        rw [if_pos (by omega), decide_eq_false (show ¬ (x : Int) < 55296 by omega), if_neg (by decide), if_neg (by omega)]
      go_wp2_with fail
      refine (utf8_ValidRune.calls 2 (x : Int) false w hf).mono ?_
      rintro e w1 ⟨rfl, hd⟩
      go_wp2
      go_ret
      exact ⟨rfl, by obtain ⟨n, rfl⟩ := hd.out; exact pw_below_drewN (Below.refl _ _) n⟩
theorem strings_ContainsRune.calls (x : Nat) (hx : x ≤ 1114111) (w : World) : Calls Tryd.prog 64 #[.string ⟨#[62, 64, 59]⟩, .int .i32 (x : Int)] w fun e w' => e = .returned (.bool (strings_ContainsRune.p ⟨#[62, 64, 59]⟩ x)) ∧ Below w.heap.size w w' := by
  by_cases h : x < 128
  · refine (Any.strings_ContainsRune_ascii LayRune ⟨#[62, 64, 59]⟩ (x : Int) w (by omega) (by omega)).mono ?_
    rintro e w' ⟨rfl, rfl⟩
    exact ⟨by rw [strings_ContainsRune.ascii _ (.inr rfl) x h], Below.refl _ _⟩
  · have hp := strings_ContainsRune.high ⟨#[62, 64, 59]⟩ (.inr rfl) x (by omega)
    rw [hp]
    go_enter Tryd.func64, Tryd.ntmps64
    go_wp2_with fail
    refine (strings_ContainsRune.index x (by omega) hx w).mono ?_
    rintro e w1 ⟨rfl, hb⟩
    go_wp2
    go_ret
    exact ⟨rfl, hb⟩


-- NOT PRINTED: function 63 (impl_numbers_1)

/-! ### impl_number: function 65 -/
def LayAtoi_ren : Go.Shelf.Ren := ⟨fun | 172 => 80 | 244 => 93 | 245 => 94 | 247 => 104 | 279 => 105 | 280 => 106 | 281 => 107 | 282 => 108 | 287 => 116 | 316 => 117 | 171 => 59 | 205 => 118 | 321 => 121 | 322 => 122 | 243 => 75 | 246 => 84 | 283 => 97 | 284 => 98 | 285 => 99 | 286 => 100 | 129 => 110 | 317 => 109 | 318 => 111 | 319 => 112 | 320 => 113 | 337 => 119 | 338 => 120 | n => n, fun | 9 => 9 | 3 => 3 | 75 => 88 | 76 => 89 | 4 => 4 | 5 => 5 | 167 => 118 | 37 => 81 | 0 => 0 | 85 => 119 | 2 => 2 | 168 => 121 | 53 => 113 | 175 => 135 | 46 => 107 | 210 => 139 | 127 => 100 | 145 => 145 | 143 => 143 | 21 => 21 | 171 => 112 | 173 => 116 | 212 => 125 | 51 => 126 | 20 => 20 | 213 => 127 | 232 => 146 | 233 => 147 | 80 => 91 | n => n, fun | 15 => 4 | 16 => 5 | 17 => 1 | 18 => 6 | 19 => 7 | n => n⟩
theorem LayAtoi : Go.Proofs.LaysC.n172 Tryd.prog LayAtoi_ren := {
  mixed := by kernel_rfl
  f129 := Tryd.func110.trans (congrArg some (by kernel_rfl))
  f171 := Tryd.func59.trans (congrArg some (by kernel_rfl))
  f172 := Tryd.func80.trans (congrArg some (by kernel_rfl))
  f205 := Tryd.func118.trans (congrArg some (by kernel_rfl))
  f243 := Tryd.func75.trans (congrArg some (by kernel_rfl))
  f244 := Tryd.func93.trans (congrArg some (by kernel_rfl))
  f245 := Tryd.func94.trans (congrArg some (by kernel_rfl))
  f246 := Tryd.func84.trans (congrArg some (by kernel_rfl))
  f247 := Tryd.func104.trans (congrArg some (by kernel_rfl))
  f279 := Tryd.func105.trans (congrArg some (by kernel_rfl))
  f280 := Tryd.func106.trans (congrArg some (by kernel_rfl))
  f281 := Tryd.func107.trans (congrArg some (by kernel_rfl))
  f282 := Tryd.func108.trans (congrArg some (by kernel_rfl))
  f283 := Tryd.func97.trans (congrArg some (by kernel_rfl))
  f284 := Tryd.func98.trans (congrArg some (by kernel_rfl))
  f285 := Tryd.func99.trans (congrArg some (by kernel_rfl))
  f286 := Tryd.func100.trans (congrArg some (by kernel_rfl))
  f287 := Tryd.func116.trans (congrArg some (by kernel_rfl))
  f316 := Tryd.func117.trans (congrArg some (by kernel_rfl))
  f317 := Tryd.func109.trans (congrArg some (by kernel_rfl))
  f318 := Tryd.func111.trans (congrArg some (by kernel_rfl))
  f319 := Tryd.func112.trans (congrArg some (by kernel_rfl))
  f320 := Tryd.func113.trans (congrArg some (by kernel_rfl))
  f321 := Tryd.func121.trans (congrArg some (by kernel_rfl))
  f322 := Tryd.func122.trans (congrArg some (by kernel_rfl))
  f337 := Tryd.func119.trans (congrArg some (by kernel_rfl))
  f338 := Tryd.func120.trans (congrArg some (by kernel_rfl))
  t0 := Tryd.underlying0
  a0 := Tryd.isAgg0
  z0 := Tryd.sizeOf0
  v0 := Tryd.zeroValue0
  t2 := Tryd.underlying2
  a2 := Tryd.isAgg2
  z2 := Tryd.sizeOf2
  v2 := Tryd.zeroValue2
  t3 := Tryd.underlying3
  a3 := Tryd.isAgg3
  z3 := Tryd.sizeOf3
  v3 := Tryd.zeroValue3
  t4 := Tryd.underlying4
  a4 := Tryd.isAgg4
  z4 := Tryd.sizeOf4
  v4 := Tryd.zeroValue4
  t5 := Tryd.underlying5
  a5 := Tryd.isAgg5
  z5 := Tryd.sizeOf5
  v5 := Tryd.zeroValue5
  t9 := Tryd.underlying9
  a9 := Tryd.isAgg9
  z9 := Tryd.sizeOf9
  v9 := Tryd.zeroValue9
  t20 := Tryd.underlying20
  a20 := Tryd.isAgg20
  z20 := Tryd.sizeOf20
  v20 := Tryd.zeroValue20
  t21 := Tryd.underlying21
  a21 := Tryd.isAgg21
  z21 := Tryd.sizeOf21
  v21 := Tryd.zeroValue21
  t37 := Tryd.underlying81
  a37 := Tryd.isAgg81
  z37 := Tryd.sizeOf81
  v37 := Tryd.zeroValue81
  t46 := Tryd.underlying107
  a46 := Tryd.isAgg107
  z46 := Tryd.sizeOf107
  v46 := Tryd.zeroValue107
  t51 := Tryd.underlying126
  a51 := Tryd.isAgg126
  z51 := Tryd.sizeOf126
  v51 := Tryd.zeroValue126
  t53 := Tryd.underlying113
  a53 := Tryd.isAgg113
  z53 := Tryd.sizeOf113
  v53 := Tryd.zeroValue113
  t75 := Tryd.underlying88
  a75 := Tryd.isAgg88
  z75 := Tryd.sizeOf88
  v75 := Tryd.zeroValue88
  t76 := Tryd.underlying89
  a76 := Tryd.isAgg89
  z76 := Tryd.sizeOf89
  v76 := Tryd.zeroValue89
  t85 := Tryd.underlying119
  a85 := Tryd.isAgg119
  z85 := Tryd.sizeOf119
  v85 := Tryd.zeroValue119
  t127 := Tryd.underlying100
  a127 := Tryd.isAgg100
  z127 := Tryd.sizeOf100
  v127 := Tryd.zeroValue100
  t143 := Tryd.underlying143
  a143 := Tryd.isAgg143
  z143 := Tryd.sizeOf143
  v143 := Tryd.zeroValue143
  t145 := Tryd.underlying145
  a145 := Tryd.isAgg145
  z145 := Tryd.sizeOf145
  v145 := Tryd.zeroValue145
  t167 := Tryd.underlying118
  a167 := Tryd.isAgg118
  z167 := Tryd.sizeOf118
  v167 := Tryd.zeroValue118
  t168 := Tryd.underlying121
  a168 := Tryd.isAgg121
  z168 := Tryd.sizeOf121
  v168 := Tryd.zeroValue121
  t171 := Tryd.underlying112
  a171 := Tryd.isAgg112
  z171 := Tryd.sizeOf112
  v171 := Tryd.zeroValue112
  t173 := Tryd.underlying116
  a173 := Tryd.isAgg116
  z173 := Tryd.sizeOf116
  v173 := Tryd.zeroValue116
  t175 := Tryd.underlying135
  a175 := Tryd.isAgg135
  z175 := Tryd.sizeOf135
  v175 := Tryd.zeroValue135
  t210 := Tryd.underlying139
  a210 := Tryd.isAgg139
  z210 := Tryd.sizeOf139
  v210 := Tryd.zeroValue139
  t212 := Tryd.underlying125
  a212 := Tryd.isAgg125
  z212 := Tryd.sizeOf125
  v212 := Tryd.zeroValue125
  t213 := Tryd.underlying127
  a213 := Tryd.isAgg127
  z213 := Tryd.sizeOf127
  t232 := Tryd.underlying146
  a232 := Tryd.isAgg146
  z232 := Tryd.sizeOf146
  v232 := Tryd.zeroValue146
  t233 := Tryd.underlying147
  a233 := Tryd.isAgg147
  z233 := Tryd.sizeOf147
  v233 := Tryd.zeroValue147
  g15 := by kernel_rfl
  g16 := by kernel_rfl
  g17 := by kernel_rfl
  g18 := by kernel_rfl
  g19 := by kernel_rfl
  t80 := Tryd.underlying91
  a80 := Tryd.isAgg91
  z80 := Tryd.sizeOf91
  v80 := Tryd.zeroValue91
  i0 := by kernel_rfl
  i2 := by kernel_rfl
  i3 := by kernel_rfl
  i4 := by kernel_rfl
  i5 := by kernel_rfl
  i9 := by kernel_rfl
  i20 := by kernel_rfl
  i21 := by kernel_rfl
  i37 := by kernel_rfl
  i46 := by kernel_rfl
  i51 := by kernel_rfl
  i53 := by kernel_rfl
  i75 := by kernel_rfl
  i76 := by kernel_rfl
  i80 := by kernel_rfl
  i85 := by kernel_rfl
  i127 := by kernel_rfl
  i143 := by kernel_rfl
  i145 := by kernel_rfl
  i167 := by kernel_rfl
  i168 := by kernel_rfl
  i171 := by kernel_rfl
  i173 := by kernel_rfl
  i175 := by kernel_rfl
  i210 := by kernel_rfl
  i212 := by kernel_rfl
  i232 := by kernel_rfl
  i233 := by kernel_rfl
  m15 := by kernel_rfl
  m16 := by kernel_rfl
  m17 := by kernel_rfl
  m18 := by kernel_rfl
  m19 := by kernel_rfl
  c0 := by kernel_rfl
  c2 := by kernel_rfl
  c3 := by kernel_rfl
  c4 := by kernel_rfl
  c5 := by kernel_rfl
  c9 := by kernel_rfl
  c20 := by kernel_rfl
  c21 := by kernel_rfl
  c37 := by kernel_rfl
  c46 := by kernel_rfl
  c51 := by kernel_rfl
  c53 := by kernel_rfl
  c75 := by kernel_rfl
  c76 := by kernel_rfl
  c80 := by kernel_rfl
  c85 := by kernel_rfl
  c127 := by kernel_rfl
  c143 := by kernel_rfl
  c145 := by kernel_rfl
  c167 := by kernel_rfl
  c168 := by kernel_rfl
  c171 := by kernel_rfl
  c173 := by kernel_rfl
  c175 := by kernel_rfl
  c210 := by kernel_rfl
  c212 := by kernel_rfl
  c213 := by kernel_rfl
  c232 := by kernel_rfl
  c233 := by kernel_rfl }
def LayItoaM_ren : Go.Shelf.Ren := ⟨fun | 171 => 59 | 243 => 75 | 246 => 84 | 283 => 97 | 284 => 98 | 285 => 99 | 286 => 100 | 129 => 110 | 317 => 109 | 318 => 111 | 319 => 112 | 320 => 113 | 337 => 119 | 338 => 120 | n => n, fun | 3 => 3 | 9 => 9 | 2 => 2 | 4 => 4 | 171 => 112 | 0 => 0 | 53 => 113 | 37 => 81 | 5 => 5 | 173 => 116 | 212 => 125 | 51 => 126 | 20 => 20 | 213 => 127 | 46 => 107 | 232 => 146 | 233 => 147 | n => n, fun | 17 => 1 | 18 => 6 | 19 => 7 | n => n⟩
theorem LayItoaM : Go.Proofs.LaysM.n171 Tryd.prog LayItoaM_ren := {
  mixed := by kernel_rfl
  f129 := Tryd.func110.trans (congrArg some (by kernel_rfl))
  f171 := Tryd.func59.trans (congrArg some (by kernel_rfl))
  f243 := Tryd.func75.trans (congrArg some (by kernel_rfl))
  f246 := Tryd.func84.trans (congrArg some (by kernel_rfl))
  f283 := Tryd.func97.trans (congrArg some (by kernel_rfl))
  f284 := Tryd.func98.trans (congrArg some (by kernel_rfl))
  f285 := Tryd.func99.trans (congrArg some (by kernel_rfl))
  f286 := Tryd.func100.trans (congrArg some (by kernel_rfl))
  f317 := Tryd.func109.trans (congrArg some (by kernel_rfl))
  f318 := Tryd.func111.trans (congrArg some (by kernel_rfl))
  f319 := Tryd.func112.trans (congrArg some (by kernel_rfl))
  f320 := Tryd.func113.trans (congrArg some (by kernel_rfl))
  f337 := Tryd.func119.trans (congrArg some (by kernel_rfl))
  f338 := Tryd.func120.trans (congrArg some (by kernel_rfl))
  t0 := Tryd.underlying0
  a0 := Tryd.isAgg0
  z0 := Tryd.sizeOf0
  v0 := Tryd.zeroValue0
  t2 := Tryd.underlying2
  a2 := Tryd.isAgg2
  z2 := Tryd.sizeOf2
  v2 := Tryd.zeroValue2
  t3 := Tryd.underlying3
  a3 := Tryd.isAgg3
  z3 := Tryd.sizeOf3
  v3 := Tryd.zeroValue3
  t4 := Tryd.underlying4
  a4 := Tryd.isAgg4
  z4 := Tryd.sizeOf4
  v4 := Tryd.zeroValue4
  t5 := Tryd.underlying5
  a5 := Tryd.isAgg5
  z5 := Tryd.sizeOf5
  v5 := Tryd.zeroValue5
  t9 := Tryd.underlying9
  a9 := Tryd.isAgg9
  z9 := Tryd.sizeOf9
  v9 := Tryd.zeroValue9
  t20 := Tryd.underlying20
  a20 := Tryd.isAgg20
  z20 := Tryd.sizeOf20
  v20 := Tryd.zeroValue20
  t37 := Tryd.underlying81
  a37 := Tryd.isAgg81
  z37 := Tryd.sizeOf81
  v37 := Tryd.zeroValue81
  t46 := Tryd.underlying107
  a46 := Tryd.isAgg107
  z46 := Tryd.sizeOf107
  v46 := Tryd.zeroValue107
  t51 := Tryd.underlying126
  a51 := Tryd.isAgg126
  z51 := Tryd.sizeOf126
  v51 := Tryd.zeroValue126
  t53 := Tryd.underlying113
  a53 := Tryd.isAgg113
  z53 := Tryd.sizeOf113
  v53 := Tryd.zeroValue113
  t171 := Tryd.underlying112
  a171 := Tryd.isAgg112
  z171 := Tryd.sizeOf112
  v171 := Tryd.zeroValue112
  t173 := Tryd.underlying116
  a173 := Tryd.isAgg116
  z173 := Tryd.sizeOf116
  v173 := Tryd.zeroValue116
  t212 := Tryd.underlying125
  a212 := Tryd.isAgg125
  z212 := Tryd.sizeOf125
  v212 := Tryd.zeroValue125
  t213 := Tryd.underlying127
  a213 := Tryd.isAgg127
  z213 := Tryd.sizeOf127
  t232 := Tryd.underlying146
  a232 := Tryd.isAgg146
  z232 := Tryd.sizeOf146
  v232 := Tryd.zeroValue146
  t233 := Tryd.underlying147
  a233 := Tryd.isAgg147
  z233 := Tryd.sizeOf147
  v233 := Tryd.zeroValue147
  g17 := by kernel_rfl
  g18 := by kernel_rfl
  g19 := by kernel_rfl
  i0 := by kernel_rfl
  i2 := by kernel_rfl
  i3 := by kernel_rfl
  i4 := by kernel_rfl
  i5 := by kernel_rfl
  i9 := by kernel_rfl
  i20 := by kernel_rfl
  i37 := by kernel_rfl
  i46 := by kernel_rfl
  i51 := by kernel_rfl
  i53 := by kernel_rfl
  i171 := by kernel_rfl
  i173 := by kernel_rfl
  i212 := by kernel_rfl
  i232 := by kernel_rfl
  i233 := by kernel_rfl
  m17 := by kernel_rfl
  m18 := by kernel_rfl
  m19 := by kernel_rfl }
/-- A variable that holds an error. -/
def impl_number.V (g : Nat) (w : World) : Prop := ∃ ev, w.cell? ⟨g, 0, none⟩ = some ev ∧ (ev = .nilIface ∨ ∃ te pe, ev = .iface te pe)
/-- What the library's own variables hold. -/
def impl_number.G (w : World) : Prop := impl_number.V (LayAtoi_ren.g 15) w ∧ impl_number.V (LayAtoi_ren.g 16) w ∧ ∀ W, Below w.heap.size w W → Lib.TabIs Tryd.prog W "internal/strconv.uint64pow10" .u64 Lib.pow10Tab
theorem impl_number.V.below {g : Nat} {w w' : World} (h : impl_number.V g w) (hb : Below w.heap.size w w') : impl_number.V g w' := by
  obtain ⟨ev, h1, h2⟩ := h
  exact ⟨ev, (hb.cell (p := ⟨g, 0, none⟩) (World.block_lt_of_cell? w _ h1)).trans h1, h2⟩
theorem impl_number.G.below {w w' : World} (h : impl_number.G w) (hb : Below w.heap.size w w') : impl_number.G w' :=
  ⟨h.1.below hb, h.2.1.below hb, fun W hW => h.2.2 W (hb.trans (hW.mono hb.size))⟩
/-- The number that a word is. -/
def impl_number.f (s : ByteArray) (most : Int) : Int × Bool := match Lib.atoiAll s.data.toList with
  | .ok n => if (⟨(Lib.itoa n).toArray⟩ : ByteArray).toList = s.toList ∧ 0 ≤ n ∧ n ≤ most then (n, true) else (0, false)
  | _ => (0, false)
theorem impl_number.below_grow (w : World) (k : Nat) (os : Array Obj) : Below w.heap.size w (Sort.grow (w.drewN k) os) := by
  have h := pw_below_drewN (Below.refl w.heap.size w) k
  refine ⟨h.os, h.tape, h.output, by have := h.size; simp only [Sort.grow, Array.size_append]; omega, fun i hi => ?_⟩
  rw [← h.block i hi]
  simp only [Sort.grow]
  exact Array.getElem?_append_left (Nat.lt_of_lt_of_le hi h.size)
set_option maxHeartbeats 4000000 in
set_option maxRecDepth 100000 in
theorem impl_number.calls (s : ByteArray) (hs : s.size ≤ 281474976710656) (most : Int) (w : World) (hG : impl_number.G w) : Calls Tryd.prog 65 #[.string s, .int .i64 most] w fun e w' => e = .returned (.tuple #[.int .i64 (impl_number.f s most).1, .bool (impl_number.f s most).2]) ∧ Below w.heap.size w w' := by
  have HG := Aside0.mk hG
  clear hG
  obtain ⟨R1, R2, hR⟩ : ∃ R1 R2, impl_number.f s most = (R1, R2) := ⟨_, _, rfl⟩
  rw [hR]
  unfold impl_number.f at hR
  cases hA : Lib.atoiAll s.data.toList with
  | range =>
    rw [hA] at hR
    obtain ⟨rfl, rfl⟩ := Prod.mk.inj hR
    obtain ⟨ev, h1, h2⟩ := HG.out.2.1
    clear hR
    go_enter Tryd.func65, Tryd.ntmps65
    go_wp2_with fail
    refine (Any.strconv_Atoi_range LayAtoi s hs hA ev w h1 h2).mono ?_
    rintro e w1 ⟨N, rfl, _, _, hb⟩
    go_wp2
    go_ret2
    exact ⟨rfl, hb⟩
  | ok n =>
    rw [hA] at hR
    simp only at hR
    have hbd := Lib.atoiAll_bounds hA
    go_enter Tryd.func65, Tryd.ntmps65
    go_wp2_with fail
    refine (Any.strconv_Atoi_ok LayAtoi s (by omega) n hA w).mono ?_
    rintro e w1 ⟨rfl, hw⟩
    have hb1 : Below w.heap.size w w1 := by
      rcases hw with rfl | ⟨t, rfl⟩
      · exact Below.refl _ _
      · exact Lib.bytesWorld_below _ _ _
    clear hw
    go_wp2_with fail
    have hIt := Any.strconv_Itoa LayItoaM n hbd.1 hbd.2 w1 (HG.out.2.2 w1 hb1)
    generalize (⟨(Lib.itoa n).toArray⟩ : ByteArray) = T at hIt hR
    refine hIt.mono ?_
    rintro e w2 ⟨rfl, k, os, hw2⟩
    have HB2 := Aside0.mk (show Below w.heap.size w w2 from below_step hb1 (by rw [hw2]; exact impl_number.below_grow w1 k os))
    clear hw2 hIt hb1 hA
    by_cases hT : T.toList = s.toList
    · have b0 : (T.toList == s.toList) = true := beq_iff_eq.mpr hT
      have b1 : (T.toList != s.toList) = false := bne_eq_false_iff_eq.mpr hT
      by_cases hw : 0 ≤ n ∧ n ≤ most
      · rw [if_pos ⟨hT, hw⟩] at hR
        obtain ⟨rfl, rfl⟩ := Prod.mk.inj hR
        have hW : impl_within.f n 0 most = some true := by unfold impl_within.f; rw [if_pos hw.1, decide_eq_true hw.2]
        clear hR hT
        go_wp2_with fail
        refine (impl_within.calls n 0 most true w2 hW).mono ?_
        rintro e w3 ⟨rfl, hd⟩
        go_wp2
        go_ret2
        exact ⟨rfl, below_step HB2.out (by obtain ⟨n, rfl⟩ := hd.out; exact pw_below_drewN (Below.refl _ _) n)⟩
      · rw [if_neg (fun h => hw h.2)] at hR
        obtain ⟨rfl, rfl⟩ := Prod.mk.inj hR
        have hW : impl_within.f n 0 most = some false := by
          unfold impl_within.f
          by_cases h0 : 0 ≤ n
          · rw [if_pos h0, decide_eq_false (fun h => hw ⟨h0, h⟩)]
          · rw [if_neg h0]
        clear hR hT
        go_wp2_with fail
        refine (impl_within.calls n 0 most false w2 hW).mono ?_
        rintro e w3 ⟨rfl, hd⟩
        go_wp2
        go_ret2
        exact ⟨rfl, below_step HB2.out (by obtain ⟨n, rfl⟩ := hd.out; exact pw_below_drewN (Below.refl _ _) n)⟩
    · have b0 : (T.toList == s.toList) = false := beq_eq_false_iff_ne.mpr hT
      have b1 : (T.toList != s.toList) = true := bne_iff_ne.mpr hT
      rw [if_neg (fun h => hT h.1)] at hR
      obtain ⟨rfl, rfl⟩ := Prod.mk.inj hR
      clear hR hT
      go_wp2
      go_ret2
      exact ⟨rfl, HB2.out⟩
  | _ =>
    rw [hA] at hR
    obtain ⟨rfl, rfl⟩ := Prod.mk.inj hR
    obtain ⟨ev, h1, h2⟩ := HG.out.1
    clear hR
    go_enter Tryd.func65, Tryd.ntmps65
    go_wp2_with fail
    refine (Any.strconv_Atoi_syntax LayAtoi s hs hA ev w h1 h2).mono ?_
    rintro e w1 ⟨N, rfl, _, _, hb⟩
    go_wp2
    go_ret2
    exact ⟨rfl, hb⟩


/-! ### impl_numbers: function 41 -/
def LayFields_ren : Go.Shelf.Ren := ⟨fun | 229 => 62 | n => n, fun | 9 => 9 | 40 => 78 | 31 => 55 | 152 => 96 | 3 => 3 | 0 => 0 | 4 => 4 | 21 => 21 | 154 => 98 | n => n, fun | n => n⟩
theorem LayFields : Go.Proofs.Lays.n229 Tryd.prog LayFields_ren := {
  mixed := by kernel_rfl
  f229 := Tryd.func62.trans (congrArg some (by kernel_rfl))
  t0 := Tryd.underlying0
  a0 := Tryd.isAgg0
  z0 := Tryd.sizeOf0
  v0 := Tryd.zeroValue0
  t3 := Tryd.underlying3
  a3 := Tryd.isAgg3
  z3 := Tryd.sizeOf3
  v3 := Tryd.zeroValue3
  t4 := Tryd.underlying4
  a4 := Tryd.isAgg4
  z4 := Tryd.sizeOf4
  v4 := Tryd.zeroValue4
  t9 := Tryd.underlying9
  a9 := Tryd.isAgg9
  z9 := Tryd.sizeOf9
  v9 := Tryd.zeroValue9
  t21 := Tryd.underlying21
  a21 := Tryd.isAgg21
  z21 := Tryd.sizeOf21
  v21 := Tryd.zeroValue21
  t31 := Tryd.underlying55
  a31 := Tryd.isAgg55
  z31 := Tryd.sizeOf55
  v31 := Tryd.zeroValue55
  t40 := Tryd.underlying78
  a40 := Tryd.isAgg78
  z40 := Tryd.sizeOf78
  v40 := Tryd.zeroValue78
  t152 := Tryd.underlying96
  a152 := Tryd.isAgg96
  z152 := Tryd.sizeOf96
  v152 := Tryd.zeroValue96
  t154 := Tryd.underlying98
  a154 := Tryd.isAgg98
  z154 := Tryd.sizeOf98
  v154 := Tryd.zeroValue98 }
-- impl_number strings_ContainsRune
/-- The words of a text with '+' between them. -/
def impl_numbers.words (s : ByteArray) : List ByteArray := Lib.goFieldsP (strings_ContainsRune.p ⟨#[62, 64, 59]⟩) s
/-- Their numbers. -/
def impl_numbers.run (most : Int) : List ByteArray → List Int → List Int × Bool
  | [], out => (out, true)
  | x :: xs, out => if (impl_number.f x most).2 = true then impl_numbers.run most xs (out ++ [(impl_number.f x most).1]) else ([], false)
def impl_numbers.f (s : ByteArray) (most : Int) : Option (List Int × Bool) := if s.size ≤ 1048576 ∧ (impl_numbers.words s).length ≤ 1048577 ∧ ∀ x ∈ impl_numbers.words s, x.size ≤ 1048576 then some (impl_numbers.run most (impl_numbers.words s) []) else none
set_option maxHeartbeats 4000000 in
set_option maxRecDepth 100000 in
theorem impl_numbers.clos (B : Nat) (w : World) (hB : w.cell? ⟨B, 0, none⟩ = some (.string ⟨#[62, 64, 59]⟩)) : PredGrows Tryd.prog 63 #[.pointer (some ⟨B, 0, none⟩)] (strings_ContainsRune.p ⟨#[62, 64, 59]⟩) w := by
  intro W x hx hb
  have hW : W.cell? ⟨B, 0, none⟩ = some (.string ⟨#[62, 64, 59]⟩) := (hb.cell (p := ⟨B, 0, none⟩) (World.block_lt_of_cell? w _ hB)).trans hB
  show Calls Tryd.prog 63 #[.int .i32 (x : Int), .pointer (some ⟨B, 0, none⟩)] W _
  go_enter Tryd.func63, Tryd.ntmps63
  go_wp2_with fail
  refine (strings_ContainsRune.calls x hx W).mono ?_
  rintro e w1 ⟨rfl, hb1⟩
  go_wp2
  go_ret
  exact ⟨rfl, hb1⟩
theorem impl_numbers.reps {R : ByteArray → List Value → Prop} (hR : ∀ x, R x [.string x]) (l : List ByteArray) : Reps R 1 l (l.map Value.string) := by
  refine ⟨by simp, fun j p hj => ?_⟩
  rw [Nat.mul_one, List.drop_eq_getElem_cons (by
    rw [List.length_map]
    exact (List.getElem?_eq_some_iff.1 hj).1)]
  obtain ⟨h1, h2⟩ := List.getElem?_eq_some_iff.1 hj
  simp [h2, hR]
set_option maxHeartbeats 4000000 in
set_option maxRecDepth 100000 in
theorem impl_numbers.calls (s : ByteArray) (most : Int) (r1 : List Int) (r2 : Bool) (w : World) (hG : impl_number.G w) (h : impl_numbers.f s most = some (r1, r2)) : Calls Tryd.prog 41 #[.string s, .string ⟨#[62, 64, 59]⟩, .int .i64 most] w fun e w' => ∃ v0_ : Value, e = .returned (.tuple #[v0_, .bool r2]) ∧ Kd.R (Kd.int .i64) 3 w' w.heap.size (fun _ => True) v0_ r1 ∧ Below w.heap.size w w' := by
  have HG := Aside0.mk hG
  clear hG
  unfold impl_numbers.f at h
  split at h
  case isFalse => cases h
  rename_i hb
  have HS := Aside0.mk hb
  have H := Aside0.mk (Option.some.inj h)
  clear h hb
  have hb0 := heap_alloc_new w (.cells #[.string ⟨#[62, 64, 59]⟩] 9)
  have hbl := below_alloc (Below.refl w.heap.size w) (.cells #[.string ⟨#[62, 64, 59]⟩] 9)
  have hbl2 := below_alloc hbl (.cells #[] 3)
  have hc0 : ((w.alloc (.cells #[.string ⟨#[62, 64, 59]⟩] 9)).alloc (.cells #[] 3)).cell? ⟨w.heap.size, 0, none⟩ = some (.string ⟨#[62, 64, 59]⟩) := by
    have h1 := (heap_alloc_old (w.alloc (.cells #[.string ⟨#[62, 64, 59]⟩] 9)) (.cells #[] 3) (r := w.heap.size) (by simp)).trans hb0
    exact (blk_cell h1 0).trans rfl
  have hg0 := heap_alloc_new (w.alloc (.cells #[.string ⟨#[62, 64, 59]⟩] 9)) (.cells #[] 3)
  have hs1 : (w.alloc (.cells #[.string ⟨#[62, 64, 59]⟩] 9)).heap.size = w.heap.size + 1 := by simp
  rw [hs1] at hg0
  obtain ⟨w1, hw1⟩ : ∃ w1, w1 = (w.alloc (.cells #[.string ⟨#[62, 64, 59]⟩] 9)).alloc (.cells #[] 3) := ⟨_, rfl⟩
  rw [← hw1] at hbl2 hc0 hg0
  have O1 := Aside0.mk (show Kd.R (Kd.int .i64) 3 w1 w.heap.size (fun _ => True) (.slice (some ⟨w.heap.size + 1, 0, none⟩) 0 0) ([] : List Int) from ⟨fun _ _ => trivial, [], ⟨rfl, .inr ⟨w.heap.size + 1, 0, #[], rfl, by omega, hg0, by simp, by simp, by simp, by simp⟩⟩, Reps.none _ _⟩)
  have B1 := Aside0.mk hbl2
  have hclos := impl_numbers.clos w.heap.size w1 hc0
  have hff := Any.strings_FieldsFunc_grows LayFields 63 #[.pointer (some ⟨w.heap.size, 0, none⟩)] (fun args w => enters_ Tryd.func63 (by kernel_rfl) rfl args w) _ s w1 (by have := HS.out.1; omega) hclos (by kernel_rfl) (by kernel_rfl)
  clear hb0 hbl hbl2 hc0 hg0 hs1 hclos
  go_enter Tryd.func41, Tryd.ntmps41
  go_wp2_with fail
  rw [← hw1]
  refine hff.mono ?_
  clear hff hw1
  rintro e w2 ⟨A, rfl, hA, hown, hb2⟩
  change w2.ownsRow w1.heap.size 9 1 (.slice (some ⟨A, 0, none⟩) (impl_numbers.words s).length (impl_numbers.words s).length) (impl_numbers.words s).length ((impl_numbers.words s).map Value.string) at hown
  have W2 := Aside0.mk (show Kd.R Kd.string 9 w2 w1.heap.size (fun k => k = A) (.slice (some ⟨A, 0, none⟩) (impl_numbers.words s).length (impl_numbers.words s).length) (impl_numbers.words s) from ⟨fun k hk => by simpa [Value.ownBlock, eq_comm] using hk, _, hown, impl_numbers.reps (R := Kd.string.M w2 w1.heap.size (fun k => k = A ∧ some k ≠ (Value.slice (some ⟨A, 0, none⟩) (impl_numbers.words s).length (impl_numbers.words s).length).ownBlock)) (fun x => rfl) _⟩)
  have O2 := Aside0.mk (Kd.R_mono (Kd.R_below (Kd.R_bound O1.out) hb2) (ok' := fun k => k ≠ A) (fun k hk => by have := hk.2.2.1; omega))
  have B2 := Aside0.mk (below_step B1.out hb2)
  have HA := Aside0.mk (show w.heap.size ≤ A ∧ A < w2.heap.size from ⟨Nat.le_trans B1.out.size hA, Kd.R_lt W2.out A (by simp [Value.ownBlock])⟩)
  clear hA hown hb2 O1 B1
  change Aside0 (impl_numbers.run most (impl_numbers.words s) [] = (r1, r2)) at H
  rw [show Lib.goFieldsP (strings_ContainsRune.p ⟨#[62, 64, 59]⟩) s = impl_numbers.words s from rfl]
  generalize impl_numbers.words s = ws at W2 H HS ⊢
  go_wp2
  go_loopg [8, 18] (ws.length + 1) (fun gg v8 v18 wr => ∃ (y : Nat) (out : List Int), v18 = .int .i64 (y : Int) ∧ Aside0 (y ≤ ws.length ∧ ws.length + 1 - y ≤ gg) ∧ Aside0 (out.length ≤ y) ∧ Aside0 (impl_numbers.run most (ws.drop y) out = (r1, r2)) ∧ Aside0 (Kd.R (Kd.int .i64) 3 wr w.heap.size (fun k => k ≠ A) v8 out) ∧ Aside0 (Kd.R Kd.string 9 wr w1.heap.size (fun k => k = A) (.slice (some ⟨A, 0, none⟩) ws.length ws.length) ws) ∧ Aside0 (Below w.heap.size w wr))
  case atStart => exact ⟨0, [], rfl, ⟨Nat.zero_le _, by omega⟩, ⟨Nat.le_refl _⟩, H, O2, W2, B2⟩
  case round =>
    clear H O2 W2 B2
    obtain ⟨y, out, rfl, HY, HO, H, O, W, B⟩ := hrel
    by_cases hy : y < ws.length
    · obtain ⟨ce, hce, hMe, hcc⟩ := Kd.R_get W.out ⟨#[]⟩ (y : Int) (by omega) (by omega)
      obtain ⟨x, hx⟩ : ∃ x, ws[y]? = some x := ⟨_, List.getElem?_eq_getElem hy⟩
      have hMe2 : ce = [.string x] := by
        have h1 : ce = [.string (ws.getD y ⟨#[]⟩)] := hMe
        rw [h1, List.getD_eq_getElem?_getD, hx]
        rfl
      subst hMe2
      have hcell := hcc 0 _ rfl
      rw [Nat.add_zero, show (Kd.string).sz = 1 from rfl, Nat.mul_one, add_at, Nat.zero_add] at hcell
      simp only [Int.toNat_natCast] at hcell
      have hdr : ws.drop y = x :: ws.drop (y + 1) := by
        obtain ⟨h1, h2⟩ := List.getElem?_eq_some_iff.1 hx
        rw [List.drop_eq_getElem_cons h1, h2]
      have HSZ := Aside0.mk (HS.out.2.2 x (List.mem_of_getElem? hx))
      have h := H.out
      rw [hdr] at h
      have HYY := Aside0.mk hy
      have y1 : decide ((y : Int) < (ws.length : Int)) = true := decide_eq_true (by omega)
      have y2 : ((y : Int) < (ws.length : Int)) = True := eq_true (by omega)
      have y3 : (y < ws.length) = True := eq_true hy
      have HWY := Aside0.mk (show wrap64 ((y : Int) + 1) = ((y + 1 : Nat) : Int) by have := HS.out.2.1; unfold wrap64; omega)
      clear hMe hcc hce hx hdr hy H
      go_wp2_with fail
      refine (impl_number.calls x (by have := HSZ.out; omega) most wr (HG.out.below B.out)).mono ?_
      rintro e w4 ⟨rfl, hb4⟩
      have O4 := Aside0.mk (Kd.R_below O.out hb4)
      have W4 := Aside0.mk (Kd.R_below W.out hb4)
      have B4 := Aside0.mk (below_step B.out hb4)
      clear hcell hb4 O W B y1 y2 y3
      simp only [impl_numbers.run] at h
      generalize (impl_number.f x most).1 = n at h ⊢
      cases hq : (impl_number.f x most).2 with
      | true =>
        rw [hq, if_pos rfl] at h
        have H := Aside0.mk h
        clear h hq
        go_wp2_with ((with_reducible refine gate_builtin (b := .append) (xs := #[.tmp 30, .tmp 32]) rfl ?_); at_builtin; refine Kd.R_append (Kd.int .i64) (w0 := w) w.heap.size rfl (.tmp 30) (.tmp 32) 43 3 (.int .i64 0) 8 rfl Tryd.underlying43 info3 rfl (by decide) (by decide) u8 out n [.int .i64 n] (fun k => k ≠ A) (fun _ => False) rfl rfl ?aP (fun _ hk => hk.elim) ?aF ?aO ?aB ?aS ?aL ?_; (case aP => exact rfl); (case aB => exact B4.out); (case aF => exact (fun k hk => by have := Kd.R_lt W4.out A (by simp [Value.ownBlock]); omega)); (case aO => exact O4.out); (case aS => exact B4.out.size); (case aL => have := HO.out; have := HYY.out; have := HS.out; omega); intro v6 w6 ho6 hb6 hg6 hat_; clear hat_)
        have W6 := Aside0.mk (Kd.R_grown W4.out hg6 (fun k hk e => O4.out.1 k e.symm hk))
        have O6 := Aside0.mk ho6
        have B6 := Aside0.mk hb6
        clear ho6 hb6 hg6
        go_roundg (ws.length + 1 - (y + 1))
        case measure => have := HY.out; have := HYY.out; omega
        case rel => exact ⟨y + 1, out ++ [n], by rw [HWY.out], ⟨by have := HYY.out; omega, by omega⟩, ⟨by have := HO.out; simp; omega⟩, H, O6, W6, B6⟩
      | false =>
        rw [hq, if_neg (by decide)] at h
        obtain ⟨rfl, rfl⟩ := Prod.mk.inj h
        clear h hq
        go_wp2
        go_ret2
        exact ⟨_, rfl, Kd.R_nil _ _ _ _ _, B4.out⟩
    · have y1 : decide ((y : Int) < (ws.length : Int)) = false := decide_eq_false (by omega)
      have y2 : ((y : Int) < (ws.length : Int)) = False := eq_false (by omega)
      have y3 : (y < ws.length) = False := eq_false hy
      have h := H.out
      rw [List.drop_eq_nil_of_le (by omega)] at h
      obtain ⟨rfl, rfl⟩ := Prod.mk.inj h
      clear h hy
      go_wp2
      go_ret2
      exact ⟨_, rfl, Kd.R_mono O.out (fun _ _ => trivial), B.out⟩


-- NOT PRINTED: function 66 (slices_Chunk_int_int_1)

end Go.Proofs.YtbghdbpaihkcjabDoor.PFnExactParseSends
