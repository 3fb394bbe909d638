-- Written by a program of this claim, over the kit's print: the functions that a law reaches, their plain forms and the walks.
import Derived.Test.YtoncbgjbkgdbaaaPFnExactMostInformedx0
import Derived.Test.YtoncbgjbkgdbaaaPFnExactMostInformedx6
namespace Go.Proofs.Ytoncbgjbkgdbaaa.PFnExactMostInformed
open Go.RowKit Go.Proofs.YtoncbgjbkgdbaaaW.PrintWords Go.Proofs.YtoncbgjbkgdbaaaW.PrintLast Go.Proofs.YtoncbgjbkgdbaaaW.PrintMore
attribute [local go_sem] max2_int min2_int max_two min_two max_three min_three max_four min_four   -- for this text's walks alone
set_option linter.unusedVariables false
set_option linter.unusedSimpArgs false

/-! ### impl_spread_rounds: function 37 -/
/-- The closure: do both know it, or neither? -/
def impl_spread_rounds.del (set : Int) (c : S54) : Bool := Go.bits .and .u16 (shr .u16 set c.f0) 1 == Go.bits .and .u16 (shr .u16 set c.f1) 1
set_option maxHeartbeats 2000000 in
theorem impl_spread_rounds.clos (B : Nat) (set : Int) (c : S54) (w : World) (hB0 : w.cell? ⟨B, 0, none⟩ = some (.int .u16 set)) (h0 : 0 ≤ c.f0) (h1 : 0 ≤ c.f1) :
    Calls Try.prog 55 #[.agg #[.int .i64 c.f0, .int .i64 c.f1], .pointer (some ⟨B, 0, none⟩)] w fun e w' => e = .returned (.bool (impl_spread_rounds.del set c)) ∧ Below w.heap.size w w' := by
  have hBW : B < w.heap.size := World.block_lt_of_cell? w _ hB0
  have hne : B ≠ w.heap.size := by omega
  have hr : Aside0 (impl_spread_rounds.del set c = (Go.bits .and .u16 (shr .u16 set c.f0) 1 == Go.bits .and .u16 (shr .u16 set c.f1) 1)) := ⟨rfl⟩
  generalize impl_spread_rounds.del set c = r at hr ⊢
  have d0 : decide (0 ≤ c.f0) = true := decide_eq_true h0
  have d1 : decide (0 ≤ c.f1) = true := decide_eq_true h1
  replace h0 := eq_true h0
  replace h1 := eq_true h1
  go_enter Try.func55, Try.ntmps55
  go_wp2
  have hx0 : (w.alloc (.cells #[.int .i64 c.f0, .int .i64 c.f1] 54)).cell? ⟨w.heap.size, 0, none⟩ = some (.int .i64 c.f0) := (blk_cell (heap_alloc_new w _) 0).trans rfl
  have hx1 : (w.alloc (.cells #[.int .i64 c.f0, .int .i64 c.f1] 54)).cell? ⟨w.heap.size, 1, none⟩ = some (.int .i64 c.f1) := (blk_cell (heap_alloc_new w _) 1).trans rfl
  have BB := Aside0.mk (show Below w.heap.size w (w.alloc (.cells #[.int .i64 c.f0, .int .i64 c.f1] 54)) from below_alloc (Below.refl _ _) _)
  replace hB0 := (BB.out.cell (p := ⟨B, 0, none⟩) hBW).trans hB0
  generalize w.alloc (.cells #[.int .i64 c.f0, .int .i64 c.f1] 54) = w1 at hx0 hx1 hB0 BB ⊢
  go_quiet (fail)
  go_wp2
  go_ret
  exact ⟨by rw [hr.out]; rfl, pw_below_drewN BB.out nq⟩
theorem impl_spread_rounds.ret_int {k : IntKind} {a b : Int} (h : a = b) : Ending.returned (.int k a) = .returned (.int k b) := by rw [h]
open Go.Proofs.YtoncbgjbkgdbaaaW.Help in
set_option maxHeartbeats 2000000 in
theorem impl_spread_rounds.indexFunc (g : Nat) (lb : Array Value) (p : S54 → Bool) (A1 : Option Addr) (c1 : Nat) (l1 : List S54) (w : World) (hr : Kd.C k54 w A1 l1.length l1)
    (eg : ∀ args w, (callFunc g args).run Try.prog w = .ok (.enter g args) w)
    (hp : ∀ (W : World) (x : S54), x ∈ l1 → Below w.heap.size w W → Calls Try.prog g (#[.agg #[.int .i64 x.f0, .int .i64 x.f1]] ++ lb) W fun e W' => e = .returned (.bool (p x)) ∧ Below w.heap.size w W') :
    Calls Try.prog 69 #[.slice A1 l1.length c1, .func (.func g) #[] lb] w fun e w' => e = .returned (.int .i64 (fi p l1)) ∧ Below w.heap.size w w' := by
  have hu := Try.underlying54
  have hlen : l1.length ≤ 9223372036854775807 := hr.2.1
  have HR := Aside0.mk hr
  have HP := Aside0.mk hp
  clear hr hp
  go_enter Try.func69, Try.ntmps69
  go_wp2
  go_loopg [5, 8] l1.length (fun gg _ s8 wr => ∃ x : Int, s8 = .int .i64 x ∧ Aside0 (0 ≤ x ∧ x ≤ (l1.length : Int) ∧ l1.length - x.toNat ≤ gg) ∧ Aside0 (Below w.heap.size w wr) ∧ Aside0 (∀ j, j < x.toNat → p (l1.getD j z54) = false))
  case atStart => exact ⟨0, rfl, ⟨by omega, by omega, by simp⟩, ⟨Below.refl _ w⟩, ⟨fun j hj => absurd hj (Nat.not_lt_zero _)⟩⟩
  case round =>
    obtain ⟨x, rfl, HX, BW, A⟩ := hrel
    by_cases hlt : x < (l1.length : Int)
    · have p0 : 0 ≤ x := HX.out.1
      obtain ⟨ad, e, hx0, hx1⟩ := at_T54 HR.out x p0 hlt
      subst e
      replace hx0 := (BW.out.cell (World.block_lt_of_cell? w _ hx0)).trans hx0
      replace hx1 := (BW.out.cell (World.block_lt_of_cell? w _ hx1)).trans hx1
      have hmem : rd_T54 l1 x ∈ l1 := by
        have hl : x.toNat < l1.length := by omega
        unfold rd_T54
        rw [List.getD_eq_getElem?_getD, List.getElem?_eq_getElem hl]
        exact List.getElem_mem hl
      have hcall := HP.out wr (rd_T54 l1 x) hmem BW.out
      clear hmem
      have B : Aside0 (l1.getD x.toNat z54 = rd_T54 l1 x) := ⟨rfl⟩
      have HL := Aside0.mk hlt
      have d1 : decide (x < (l1.length : Int)) = true := decide_eq_true hlt
      have d0 : decide (0 ≤ x) = true := decide_eq_true p0
      replace p0 := eq_true p0
      replace hlt := eq_true hlt
      clear HP HR
      generalize rd_T54 l1 x = y at hcall hx0 hx1 B
      cases hq : p y with
      | true =>
        rw [hq] at hcall
        have HQ := Aside0.mk hq
        clear hq
        go_wp2_with fail
        refine hcall.mono ?_
        rintro e w' ⟨rfl, hb'⟩
        go_wp2
        go_ret
        exact ⟨impl_spread_rounds.ret_int (by rw [fi_hit z54 (k := x.toNat) (by have := HL.out; have := HX.out; omega) (by rw [B.out]; exact HQ.out) A.out, Int.toNat_of_nonneg HX.out.1]), hb'⟩
      | false =>
        rw [hq] at hcall
        have HQ := Aside0.mk hq
        clear hq
        go_wp2_with fail
        refine hcall.mono ?_
        rintro e w' ⟨rfl, hb'⟩
        go_wp2
        go_roundg (l1.length - (x.toNat + 1))
        case measure => have := HL.out; have := HX.out; omega
        case rel =>
          have h1 := HL.out
          have h2 := HX.out
          refine ⟨x + 1, by first | rfl | (rw [show wrap64 (x + 1) = x + 1 by unfold wrap64; omega]), ⟨by omega, by omega, by omega⟩, ⟨hb'⟩, ⟨fun j hj => ?_⟩⟩
          by_cases e : j = x.toNat
          · rw [e, B.out]; exact HQ.out
          · exact A.out j (by omega)
    · have HL := Aside0.mk hlt
      have d1 : decide (x < (l1.length : Int)) = false := decide_eq_false hlt
      clear hlt
      go_wp2
      go_ret
      exact ⟨impl_spread_rounds.ret_int (by rw [fi_miss z54 (fun j hj => A.out j (by have := HL.out; have := HX.out; omega))]), BW.out⟩
-- calls function 56
theorem impl_spread_rounds.own_clear {W : World} {base e sz n c g : Nat} {inner : List Value} (h : W.ownsRow base e sz (.slice (some ⟨g, 0, none⟩) n c) n inner) (vs : List Value) (hv : n * sz + vs.length ≤ c * sz) : (W.setCells g (n * sz) vs).ownsRow base e sz (.slice (some ⟨g, 0, none⟩) n c) n inner := by
  obtain ⟨h1, h2⟩ := h
  rcases h2 with ⟨h2, _⟩ | ⟨g', cap, cur, he, hb, hh, hn, hm, hs, ht⟩
  · cases h2
  · injection he with ha _ hc
    injection ha with ha
    injection ha with hg
    subst hg hc
    obtain ⟨cur', k1, k2, k3⟩ := setCells_row vs (n * sz) W cur hh (by rw [hs]; exact hv)
    refine ⟨h1, .inr ⟨g, c, cur', rfl, hb, k1, hn, hm, by rw [k2, hs], ?_⟩⟩
    have hl : n * sz ≤ cur.toList.length := by rw [Array.length_toList, hs]; omega
    rw [k3, List.append_assoc, List.take_append_of_le_length (by rw [List.length_take]; omega), List.take_take, Nat.min_self]
    exact ht
theorem impl_spread_rounds.set_take {α : Type} (L : List α) (a : Nat) (x : α) (h : a < L.length) : (L.set a x).take (a + 1) = L.take a ++ [x] := by
  apply List.ext_getElem?
  intro i
  rcases Nat.lt_trichotomy i a with h1 | h1 | h1
  · rw [List.getElem?_take_of_lt (by omega), List.getElem?_set_ne (by omega), List.getElem?_append_left (by rw [List.length_take]; omega), List.getElem?_take_of_lt h1]
  · subst h1
    rw [List.getElem?_take_of_lt (by omega), List.getElem?_set_self h, List.getElem?_append_right (by rw [List.length_take]; omega), List.length_take, Nat.min_eq_left (by omega), Nat.sub_self]
    rfl
  · rw [List.getElem?_eq_none (by simp; omega), List.getElem?_eq_none (by simp; omega)]
set_option maxRecDepth 100000 in
theorem impl_spread_rounds.clear_ok {W : World} {base g m k c n : Nat} {inner : List Value} (h : W.ownsRow base 54 2 (.slice (some ⟨g, 0, none⟩) n c) n inner) (hn : n = m + k) (hk : 0 < k) (c' ty : Nat) :
    (Builtin.clear_ #[26] ty #[.slice (some ⟨g, m * 2, none⟩) k c']).run Try.prog W = .ok (.tuple #[]) (W.setCells g (m * 2) (Builtin.zeroCells #[.int .i64 0, .int .i64 0] k).toList) := by
  obtain ⟨h1, h2⟩ := h
  rcases h2 with ⟨_, h2⟩ | ⟨g', cap, cur, he, hb, hh, hnn, hm, hs, ht⟩
  · omega
  · injection he with ha _ hcc
    injection ha with ha
    injection ha with hg
    subst hg hcc
    have hzl : (Builtin.zeroCells #[Value.int .i64 0, .int .i64 0] k).toList.length = k * 2 := by simp [Builtin.zeroCells]
    have hst := run_storeCells_cells (P := Try.prog) g (m * 2) (Builtin.zeroCells #[.int .i64 0, .int .i64 0] k).toList 0 W (fun j hj => by
        rw [hzl] at hj
        have : m * 2 + j < cur.size := by omega
        simp [World.cell?, hh, this]) (fun j hj => by simp [World.frozen?, hh]) (fun v hv => by
        simp only [Builtin.zeroCells, Array.toList_map, List.mem_map] at hv
        obtain ⟨i, _, rfl⟩ := hv
        have h2 : i % (#[Value.int .i64 0, .int .i64 0] : Array Value).size < 2 := Nat.mod_lt _ (by decide)
        rcases Nat.lt_or_ge (i % (#[Value.int .i64 0, .int .i64 0] : Array Value).size) 1 with h3 | h3
        · rw [show i % (#[Value.int .i64 0, .int .i64 0] : Array Value).size = 0 by omega]; rfl
        · rw [show i % (#[Value.int .i64 0, .int .i64 0] : Array Value).size = 1 by omega]; rfl)
    simp only [Nat.add_zero] at hst
    have hz : ∀ w, (zeroValue 54).run Try.prog w = .ok (.agg #[.int .i64 0, .int .i64 0]) w := fun _ => rfl
    have hzc : (Value.agg #[.int .i64 0, .int .i64 0]).cells = #[.int .i64 0, .int .i64 0] := by kernel_rfl
    obtain ⟨k, rfl⟩ : ∃ q, k = q + 1 := ⟨k - 1, by omega⟩
    simp [Builtin.clear_, run_underlying Try.underlying26, hz, hzc, hst]
theorem impl_spread_rounds.keep_filter (p : S54 → Bool) (l : List S54) (j : Nat) (h : j < l.length) : (l.take (j + 1)).filter p = (l.take j).filter p ++ if p l[j] = true then [l[j]] else [] := by
  rw [List.take_succ_eq_append_getElem h, List.filter_append]
  congr 1
  by_cases e : p l[j] = true
  · rw [if_pos e, List.filter_cons_of_pos e]; rfl
  · rw [if_neg e, List.filter_cons_of_neg e]; rfl
open Go.Proofs.YtoncbgjbkgdbaaaW.Help in
set_option maxHeartbeats 4000000 in
set_option maxRecDepth 100000 in
theorem impl_spread_rounds.deleteFunc (B : Nat) (set : Int) (l : List S54) (v : Value) (base : Nat) (w0 w : World) (hbw : Below base w0 w) (hbs : base ≤ w.heap.size) (HO : Kd.R k54 54 w base (fun k => k ≠ B) v l) (hB : w.cell? ⟨B, 0, none⟩ = some (.int .u16 set)) (hl : l.length ≤ 1000) (hn : ∀ x ∈ l, 0 ≤ x.f0 ∧ 0 ≤ x.f1) :
    Calls Try.prog 53 #[v, .func (.func 55) #[] #[.pointer (some ⟨B, 0, none⟩)]] w fun e w' => ∃ v', e = .returned v' ∧ Kd.R k54 54 w' base (fun k => k ≠ B) v' (l.filter fun x => !impl_spread_rounds.del set x) ∧ Below base w0 w' ∧ w'.cell? ⟨B, 0, none⟩ = some (.int .u16 set) := by
  obtain ⟨A, c, rfl⟩ := Kd.R_slice HO
  have hu := Try.underlying54
  have hBW : B < w.heap.size := World.block_lt_of_cell? w _ hB
  have hix := impl_spread_rounds.indexFunc 55 #[.pointer (some ⟨B, 0, none⟩)] (impl_spread_rounds.del set) A c l w (Kd.R_reads' HO).2.2 (enters_of Try.func55 (by kernel_rfl) rfl) (fun W x hx hW => (impl_spread_rounds.clos B set x W ((hW.cell (p := ⟨B, 0, none⟩) hBW).trans hB) (hn x hx).1 (hn x hx).2).mono (fun e W' h => ⟨h.1, below_step hW h.2⟩))
  have HR := Aside0.mk HO
  have HBW := Aside0.mk hbw
  have HBS := Aside0.mk hbs
  have HL := Aside0.mk hl
  have HN := Aside0.mk hn
  clear HO hbw hbs hl hn
  go_enter Try.func53, Try.ntmps53
  go_wp2_with fail
  refine hix.mono ?_
  clear hix
  rintro e w1 ⟨rfl, hb1⟩
  have HB1 := Aside0.mk hb1
  replace hB := (hb1.cell (p := ⟨B, 0, none⟩) hBW).trans hB
  have HR1 := Aside0.mk (Kd.R_below HR.out hb1)
  have HBW1 := Aside0.mk (HBW.out.trans (hb1.mono HBS.out))
  have HBS1 := Aside0.mk (Nat.le_trans HBS.out hb1.size)
  clear hb1 HR HBW HBS
  by_cases hfi : fi (impl_spread_rounds.del set) l = -1
  · rw [hfi]
    go_wp2
    go_ret
    refine ⟨_, rfl, ?_, HBW1.out, hB⟩
    have hany : l.any (impl_spread_rounds.del set) = false := by
      unfold fi at hfi
      cases h : l.any (impl_spread_rounds.del set) with
      | false => rfl
      | true => rw [h] at hfi; simp at hfi
    have e : (l.filter fun x => !impl_spread_rounds.del set x) = l := by
      rw [List.filter_eq_self]
      intro x hx
      have := List.any_eq_false.1 hany x hx
      simpa using this
    rw [e]
    exact HR1.out
  · have hq : (fi (impl_spread_rounds.del set) l == (-1 : Int)) = false := beq_eq_false_iff_ne.mpr hfi
    have hany : l.any (impl_spread_rounds.del set) = true := by
      unfold fi at hfi
      cases h : l.any (impl_spread_rounds.del set) with
      | true => rfl
      | false => rw [h] at hfi; simp at hfi
    obtain ⟨i, hidef⟩ : ∃ i : Nat, i = l.findIdx (impl_spread_rounds.del set) := ⟨_, rfl⟩
    have hi : fi (impl_spread_rounds.del set) l = (i : Int) := by unfold fi; rw [hany, if_pos rfl, hidef]
    have hil : i < l.length := by rw [hidef]; exact List.findIdx_lt_length_of_exists (by obtain ⟨x, h1, h2⟩ := List.any_eq_true.1 hany; exact ⟨x, h1, h2⟩)
    have hpi : impl_spread_rounds.del set l[i] = true := by subst hidef; exact List.findIdx_getElem (w := hil)
    have hpre : (l.take (i + 1)).filter (fun x => !impl_spread_rounds.del set x) = l.take i := by
      rw [impl_spread_rounds.keep_filter _ l i hil, if_neg (by simp [hpi]), List.append_nil, List.filter_eq_self]
      intro x hx
      obtain ⟨k, hk, rfl⟩ := List.mem_iff_getElem.1 hx
      rw [List.length_take] at hk
      rw [List.getElem_take]
      have := List.not_of_lt_findIdx (p := impl_spread_rounds.del set) (xs := l) (i := k) (by omega)
      simpa using this
    obtain ⟨g, cap, hv, hg1, hg2, _⟩ := Kd.R_form HR1.out (by omega)
    injection hv with hA _ hc
    subst hA hc
    rw [hi] at hq ⊢
    have hwi : wrap64 ((i : Int) + 1) = ((i + 1 : Nat) : Int) := by have := HL.out; unfold wrap64; omega
    have HPRE := Aside0.mk hpre
    have HIL := Aside0.mk hil
    have HBc := Aside0.mk hB
    clear hfi hi hidef hany hpi hpre HB1
    go_wp2
    rw [hwi]
    clear hwi hB hq hil
    go_loopg [5, 6] (l.length + 1) (fun gg v5 v6 wr => ∃ (a b : Nat) (L : List S54), v5 = .int .i64 (a : Int) ∧ v6 = .int .i64 (b : Int) ∧ Aside0 (a < b ∧ b ≤ l.length ∧ L.length = l.length ∧ l.length + 1 - b ≤ gg) ∧ Aside0 (L.take a = (l.take b).filter (fun x => !impl_spread_rounds.del set x)) ∧ Aside0 (L.drop b = l.drop b) ∧ Aside0 (Kd.R k54 54 wr base (fun k => k ≠ B) (.slice (some ⟨g, 0, none⟩) l.length c) L) ∧ Aside0 (Below base w0 wr) ∧ Aside0 (wr.cell? ⟨B, 0, none⟩ = some (.int .u16 set)) ∧ Aside0 (base ≤ wr.heap.size))
    case atStart => exact ⟨i, i + 1, l, rfl, rfl, ⟨by omega, by have := HIL.out; omega, rfl, by have := HIL.out; omega⟩, ⟨HPRE.out.symm⟩, ⟨rfl⟩, HR1, HBW1, HBc, HBS1⟩
    case round =>
      clear HPRE HR1 HBW1 HBS1 HBc hg1 hg2
      obtain ⟨a, b, L, rfl, rfl, HX, HT, HD, HR, HB, HC, HS⟩ := hrel
      by_cases hlt : b < l.length
      · obtain ⟨x, hx⟩ : ∃ x, l[b]? = some x := ⟨_, List.getElem?_eq_getElem hlt⟩
        have hLb : L.getD b z54 = x := by
          have h1 := congrArg (fun m => m[0]?) HD.out
          simp only [List.getElem?_drop, Nat.add_zero] at h1
          rw [List.getD_eq_getElem?_getD, h1, hx]
          rfl
        obtain ⟨cs, hcl, hM, hcc, hfr⟩ := Kd.R_elem HR.out z54 (b : Int) (by omega) (by omega)
        rw [Int.toNat_natCast] at hcc hfr hM
        rw [hLb] at hM
        obtain rfl := k54_openM hM
        have hx0 : wr.cell? ⟨g, b * 2, none⟩ = some (.int .i64 x.f0) := hcc 0 _ rfl
        have hx1 : wr.cell? ⟨g, b * 2 + 1, none⟩ = some (.int .i64 x.f1) := hcc 1 _ rfl
        have HWB := Aside0.mk (show wrap64 ((b : Int) + 1) = ((b + 1 : Nat) : Int) by have := HL.out; unfold wrap64; omega)
        have HWA := Aside0.mk (show wrap64 ((a : Int) + 1) = ((a + 1 : Nat) : Int) by have := HL.out; have := HX.out; unfold wrap64; omega)
        have HXB := Aside0.mk (show ∀ h : b < l.length, l[b] = x from fun h => by rw [List.getElem?_eq_getElem h] at hx; exact Option.some.inj hx)
        have d1 : decide ((b : Int) < (l.length : Int)) = true := decide_eq_true (by omega)
        have d2 : ((b : Int) < (l.length : Int)) = True := eq_true (by omega)
        have HLT := Aside0.mk hlt
        have HXX := Aside0.mk hx
        clear hcl hM hcc hfr hLb hx hlt
        go_wp2_with fail
        have HBX := Aside0.mk (show Below wr.heap.size wr (wr.alloc (.cells #[.int .i64 x.f0, .int .i64 x.f1] 54)) from below_alloc (Below.refl _ _) _)
        have hy0 : (wr.alloc (.cells #[.int .i64 x.f0, .int .i64 x.f1] 54)).cell? ⟨wr.heap.size, 0, none⟩ = some (.int .i64 x.f0) := (blk_cell (heap_alloc_new wr _) 0).trans rfl
        have hy1 : (wr.alloc (.cells #[.int .i64 x.f0, .int .i64 x.f1] 54)).cell? ⟨wr.heap.size, 1, none⟩ = some (.int .i64 x.f1) := (blk_cell (heap_alloc_new wr _) 1).trans rfl
        generalize wr.alloc (.cells #[.int .i64 x.f0, .int .i64 x.f1] 54) = w2 at HBX hy0 hy1 ⊢
        have hmem : x ∈ l := List.mem_of_getElem? HXX.out
        have hcl := impl_spread_rounds.clos B set x w2 ((HBX.out.cell (p := ⟨B, 0, none⟩) (World.block_lt_of_cell? wr _ HC.out)).trans HC.out) (HN.out x hmem).1 (HN.out x hmem).2
        refine hcl.mono ?_
        clear hcl hmem
        rintro e w3 ⟨rfl, hb3⟩
        replace hy0 := (hb3.cell (World.block_lt_of_cell? w2 _ hy0)).trans hy0
        replace hy1 := (hb3.cell (World.block_lt_of_cell? w2 _ hy1)).trans hy1
        have HB3 := Aside0.mk (below_step HBX.out hb3)
        clear hb3
        cases hq : impl_spread_rounds.del set x with
        | true =>
          have HQ := Aside0.mk hq
          clear hq hy0 hy1
          go_wp2
          go_roundg (l.length + 1 - (b + 1))
          case measure => have := HX.out; have := HLT.out; omega
          case rel =>
            refine ⟨a, b + 1, L, rfl, by rw [HWB.out], ⟨by have := HX.out; omega, by have := HLT.out; omega, HX.out.2.2.1, by omega⟩, ⟨?_⟩, ⟨?_⟩, ⟨Kd.R_below HR.out HB3.out⟩, ⟨HB.out.trans (HB3.out.mono HS.out)⟩, ⟨(HB3.out.cell (p := ⟨B, 0, none⟩) (World.block_lt_of_cell? wr _ HC.out)).trans HC.out⟩, ⟨Nat.le_trans HS.out HB3.out.size⟩⟩
            · rw [impl_spread_rounds.keep_filter _ l b HLT.out, HXB.out HLT.out, if_neg (by simp [HQ.out]), List.append_nil]
              exact HT.out
            · have h1 := congrArg (List.drop 1) HD.out
              rw [List.drop_drop, List.drop_drop] at h1
              exact h1
        | false =>
          have HQ := Aside0.mk hq
          clear hq
          have HR3 := Aside0.mk (Kd.R_below HR.out HB3.out)
          have HBB3 := Aside0.mk (HB.out.trans (HB3.out.mono HS.out))
          obtain ⟨cs, hcl, hM, hcc, hfr⟩ := Kd.R_elem HR3.out z54 (a : Int) (by omega) (by have := HX.out; omega)
          have HCL := Aside0.mk hcl
          have HCC := Aside0.mk hcc
          have HMM := Aside0.mk (show k54.M w3 base (fun _ => False) x (cs.take 0 ++ [.int .i64 x.f0, .int .i64 x.f1] ++ cs.drop (0 + [Value.int .i64 x.f0, .int .i64 x.f1].length)) by
            have h2 : cs.length = 2 := hcl
            rw [List.drop_eq_nil_of_le (by simp [h2])]
            exact k54_mkM _ _ _ x)
          have HAL := Aside0.mk (show (a : Int) < (l.length : Int) by have := HX.out; omega)
          have hce := k54_openM hM
          rw [Int.toNat_natCast] at hcc hfr
          have hz0 : w3.cell? ⟨g, a * 2, none⟩ = some (.int .i64 (L.getD (a : Int).toNat z54).f0) := hcc 0 _ (by rw [hce]; rfl)
          have hz1 : w3.cell? ⟨g, a * 2 + 1, none⟩ = some (.int .i64 (L.getD (a : Int).toNat z54).f1) := hcc 1 _ (by rw [hce]; rfl)
          have hf0 : w3.frozen? ⟨g, a * 2, none⟩ = false := hfr 0
          have hf1 : w3.frozen? ⟨g, a * 2 + 1, none⟩ = false := hfr 1
          have a1 : decide ((a : Int) < (l.length : Int)) = true := decide_eq_true HAL.out
          have a2 : ((a : Int) < (l.length : Int)) = True := eq_true HAL.out
          clear hcl hcc hM hfr hce
          go_wp2
          have HGB : g ≠ B := HR3.out.1 g (by simp [Value.ownBlock])
          obtain ⟨hr4, hg4⟩ := Kd.R_seg HR3.out (a : Int) (by omega) HAL.out HCL.out HCC.out (Nat.le_refl 2) HMM.out (fun _ h => h.elim)
          have HR4 := Aside0.mk (show Kd.R k54 54 ((w3.setCell ⟨g, a * 2, none⟩ (.int .i64 x.f0)).setCell ⟨g, a * 2 + 1, none⟩ (.int .i64 x.f1)) base (fun k => k ≠ B) (.slice (some ⟨g, 0, none⟩) l.length c) (L.set a x) from hr4)
          have HG4 := Aside0.mk (show w3.grownBy ((w3.setCell ⟨g, a * 2, none⟩ (.int .i64 x.f0)).setCell ⟨g, a * 2 + 1, none⟩ (.int .i64 x.f1)) (some g) from hg4)
          clear hr4 hg4
          generalize (w3.setCell ⟨g, a * 2, none⟩ (.int .i64 x.f0)).setCell ⟨g, a * 2 + 1, none⟩ (.int .i64 x.f1) = w4 at HR4 HG4 ⊢
          go_roundg (l.length + 1 - (b + 1))
          case measure => have := HX.out; have := HLT.out; omega
          case rel =>
            have hC3 := (HB3.out.cell (p := ⟨B, 0, none⟩) (World.block_lt_of_cell? wr _ HC.out)).trans HC.out
            have hB4 := HG4.out.block B (World.block_lt_of_cell? w3 _ hC3) (fun e => HGB (by injection e with e; exact e.symm))
            refine ⟨a + 1, b + 1, L.set a x, by rw [HWA.out], by rw [HWB.out], ⟨by have := HX.out; omega, by have := HLT.out; omega, by rw [List.length_set]; exact HX.out.2.2.1, by omega⟩, ⟨?_⟩, ⟨?_⟩, HR4, ⟨HBB3.out.grown HG4.out (Nat.le_trans HS.out HB3.out.size) (fun k hk => by injection hk with hk; subst hk; exact Kd.R_base HR3.out _ (by simp [Value.ownBlock]))⟩, ⟨?_⟩, ⟨Nat.le_trans HS.out (Nat.le_trans HB3.out.size HG4.out.size)⟩⟩
            · rw [impl_spread_rounds.set_take L a x (by have := HX.out; omega), impl_spread_rounds.keep_filter _ l b HLT.out, HXB.out HLT.out, if_pos (by simp [HQ.out]), HT.out]
            · have h1 := congrArg (List.drop 1) HD.out
              rw [List.drop_drop, List.drop_drop] at h1
              rw [List.drop_set_of_lt (by have := HX.out; omega)]
              exact h1
            · have h2 := hC3
              simp only [World.cell?] at h2 ⊢
              rw [hB4]
              exact h2
      · have d1 : decide ((b : Int) < (l.length : Int)) = false := decide_eq_false (by omega)
        have d2 : ((b : Int) < (l.length : Int)) = False := eq_false (by omega)
        have HLT := Aside0.mk hlt
        clear hlt
        have hnc := (Kd.R_reads' HR.out).2.1
        obtain ⟨hx1, hx2, hx3, hx4⟩ := HX.out
        have c1 : (c = a) = False := eq_false (by omega)
        have c2 : (a ≤ l.length) = True := eq_true (by omega)
        have c3 : ((a : Int) ≤ (l.length : Int)) = True := eq_true (by omega)
        have c4 : (l.length ≤ c) = True := eq_true (by omega)
        have c5 : (a ≤ c) = True := eq_true (by omega)
        have c6 : decide ((a : Int) ≤ (l.length : Int)) = true := decide_eq_true (by omega)
        have c7 : decide ((a : Int) ≤ (c : Int)) = true := decide_eq_true (by omega)
        obtain ⟨inner, hown⟩ := Kd.R_own HR.out
        rw [hx3] at hown
        have hcl := fun ty => impl_spread_rounds.clear_ok (ty := ty) (m := a) (k := l.length - a) (c' := c - a) hown (by omega) (by omega)
        clear hx1 hx2 hx3 hx4 hown hnc
        have HTK := Aside0.mk (Kd.R_take (m := a) HR.out (by have := HX.out; omega))
        go_wp2_with fail
        go_ret
        obtain ⟨Z, hZ⟩ : ∃ Z, Z = (Builtin.zeroCells #[Value.int .i64 0, Value.int .i64 0] (l.length - a)).toList := ⟨_, rfl⟩
        have hZl : Z.length = (l.length - a) * 2 := by rw [hZ]; simp [Builtin.zeroCells]
        rw [← hZ]
        obtain ⟨hok, inner2, hown2, hrp⟩ := HTK.out
        have hal : (L.take a).length = a := by rw [List.length_take]; have := HX.out; omega
        have hcl2 : l.length ≤ c := (Kd.R_reads' HR.out).2.1
        obtain ⟨s1, s2, s3, s4⟩ := setCells_same g Z (a * 2) wr
        have hfar : ∀ k', k' ≠ g → (wr.setCells g (a * 2) Z).heap[k']? = wr.heap[k']? := fun k' hk' => setCells_far Z _ k' hk'
        have hgr : wr.grownBy (wr.setCells g (a * 2) Z) (some g) := ⟨s1, s2, s3, by rw [s4]; exact Nat.le_refl _, fun k' _ hk' => hfar k' (fun he => hk' (by rw [he]))⟩
        have hgB : g ≠ B := HR.out.1 g (by simp [Value.ownBlock])
        have efil : L.take a = l.filter fun x => !impl_spread_rounds.del set x := by
          rw [HT.out, List.take_of_length_le (by have := HLT.out; omega)]
        refine ⟨_, rfl, ?_, HB.out.grown hgr HS.out (fun k hk => by injection hk with hk; subst hk; exact Kd.R_base HR.out _ (by simp [Value.ownBlock])), ?_⟩
        · rw [← efil]
          refine ⟨hok, inner2, ?_, hrp.imp_ (fun p q hp => k54.M_move (fun k' hk' => hfar k' (fun he => hk'.2 (by rw [he]; simp [Value.ownBlock]))) hp)⟩
          rw [hal] at hown2 ⊢
          exact impl_spread_rounds.own_clear (sz := 2) hown2 Z (by rw [hZl]; have := HX.out; omega)
        · have h2 := HC.out
          simp only [World.cell?] at h2 ⊢
          rw [hfar B (fun e => hgB e.symm)]
          exact h2
/-- All rounds from those who know. -/
def impl_spread_rounds.rounds (set : Int) (pairs : List S54) : List (List S54) := impl_matchings.all (pairs.filter fun x => !impl_spread_rounds.del set x)
set_option maxHeartbeats 4000000 in
set_option maxRecDepth 100000 in
theorem impl_spread_rounds.calls (pairs : List S54) (hl : pairs.length ≤ 1000) (hn : ∀ x ∈ pairs, 0 ≤ x.f0 ∧ 0 ≤ x.f1) (set fr : Int) (mp : Value) (hmp : mp.oneCell' = true) (hbd : (impl_spread_rounds.rounds set pairs).length ≤ 1000000000) (A : Option Addr) (cc : Nat) (w : World) (hC : Kd.C k54 w A pairs.length pairs) (hc : pairs.length ≤ cc) :
    Calls Try.prog 37 #[.agg #[.int .i64 fr, .slice A pairs.length cc, mp], .int .u16 set] w fun e w' => ∃ v', e = .returned v' ∧ Kd.S (Kd.slice 54 k54) 26 w' w.heap.size (fun _ => True) v' (impl_spread_rounds.rounds set pairs) ∧ Below w.heap.size w w' := by
  have HC := Aside0.mk hC
  have HCC := Aside0.mk hc
  have HBD := Aside0.mk hbd
  have HL := Aside0.mk hl
  clear hC hc hbd
  go_enter Try.func37, Try.ntmps37
  go_wp2_with fail
  have BA := Aside0.mk (show Below w.heap.size w ((w.alloc (.cells #[.int .i64 fr, .slice A pairs.length cc, mp] 61)).alloc (.cells #[.int .u16 set] 63)) from below_alloc (below_alloc (Below.refl _ _) _) _)
  have hb0 : ((w.alloc (.cells #[.int .i64 fr, .slice A pairs.length cc, mp] 61)).alloc (.cells #[.int .u16 set] 63)).cell? ⟨w.heap.size + 1, 0, none⟩ = some (.int .u16 set) := by
    have g := blk_cell (heap_alloc_new (w.alloc (.cells #[.int .i64 fr, .slice A pairs.length cc, mp] 61)) (.cells #[.int .u16 set] 63)) 0
    rw [show (w.alloc (.cells #[.int .i64 fr, .slice A pairs.length cc, mp] 61)).heap.size = w.heap.size + 1 by simp] at g
    exact g
  generalize (w.alloc (.cells #[.int .i64 fr, .slice A pairs.length cc, mp] 61)).alloc (.cells #[.int .u16 set] 63) = wA at BA hb0 ⊢
  refine (impl_Call_54.calls A cc pairs pairs wA (Kd.C_below HC.out BA.out) HCC.out (by unfold impl_Call_54.f; rw [if_pos (by omega)])).mono ?_
  rintro e w2 ⟨v1, rfl, hv, hb⟩
  have hlt := World.block_lt_of_cell? wA _ hb0
  have hb2 : w2.cell? ⟨w.heap.size + 1, 0, none⟩ = some (.int .u16 set) := (hb.cell (p := ⟨w.heap.size + 1, 0, none⟩) hlt).trans hb0
  have R2 := Aside0.mk (show Kd.R k54 54 w2 w.heap.size (fun k => k ≠ w.heap.size + 1) v1 pairs from Kd.R_lower (Kd.R_mono (Kd.R_bound hv) (fun k hk => by have := hk.2.1; simp only at hlt; omega)) BA.out.size)
  have B2 := Aside0.mk (below_step BA.out hb)
  clear hv hb hb0 hlt
  go_wp2_with fail
  refine (impl_spread_rounds.deleteFunc (w.heap.size + 1) set pairs v1 w.heap.size w w2 B2.out B2.out.size R2.out hb2 HL.out hn).mono ?_
  rintro e w3 ⟨v2, rfl, hr3, hb3, _⟩
  obtain ⟨A2, c2, rfl⟩ := Kd.R_slice hr3
  have R3 := Aside0.mk (Kd.R_mono (ok' := fun _ => True) hr3 (fun _ _ => trivial))
  have B3 := Aside0.mk hb3
  clear hr3 hb3 hb2 R2
  go_wp2_with fail
  refine (impl_matchings.calls (pairs.filter fun x => !impl_spread_rounds.del set x) (Nat.le_trans (List.length_filter_le _ _) HL.out) (fun x hx => hn x (List.mem_filter.1 hx).1) HBD.out A2 c2 w.heap.size w3 R3.out).mono ?_
  rintro e w4 ⟨v4, rfl, hs4, hb4⟩
  obtain ⟨A4, c4, rfl, _⟩ := Kd.S_reads hs4
  have S4 := Aside0.mk (Kd.S_lower hs4 B3.out.size)
  have B4 := Aside0.mk (below_step B3.out hb4)
  clear hs4 hb4
  go_wp2
  go_ret
  exact ⟨_, rfl, S4.out, B4.out⟩


/-! ### impl_behind: function 38 -/
def impl_behind.l0 : Nat → Int → List (S54) → Int → Int → Option (Int)
  | 0, _, _, _, _ => none
  | k + 1, x0, x7, x8, x9 => if x9 < x8 then (if 0 ≤ x9 then (if x9 < (x7.length : Int) then (if 0 ≤ ((rd_T54 x7 x9).f0) then (if 0 ≤ ((rd_T54 x7 x9).f1) then (impl_behind.l0 k (Go.bits .or .u16 x0 (Go.bits .or .u16 (shl .u16 1 ((rd_T54 x7 x9).f0)) (shl .u16 1 ((rd_T54 x7 x9).f1)))) x7 x8 (wrap64 (x9 + 1))) else (none)) else (none)) else (none)) else (none)) else (some x0)
def impl_behind.f (k : Nat) (a0 : Int) (l1 : List (S54)) : Option (Int) := impl_behind.l0 k a0 l1 (l1.length : Int) 0
theorem impl_behind.mono_l : ∀ k, (∀ y0 y1 y2 y3, LeO (impl_behind.l0 k y0 y1 y2 y3) (impl_behind.l0 (k + 1) y0 y1 y2 y3))
  | 0 => fun _ _ _ _ r h => by simp [impl_behind.l0] at h
  | k + 1 => by
    have ih0 := impl_behind.mono_l k
    · intro y0 y1 y2 y3
      unfold impl_behind.l0
      repeat' first
      | (with_reducible exact ih0 _ _ _ _)
      | (with_reducible exact LeO.refl _)
      | (with_reducible exact LeO.none _)
      | (with_reducible refine LeO.ite ?_ ?_)
      | (with_reducible refine LeO.bind ?_ (fun _ => ?_))
      | exact ih0 _ _ _ _
      | exact LeO.none _
      | refine LeO.ite ?_ ?_
      | refine LeO.bind ?_ (fun _ => ?_)
theorem impl_behind.mono : ∀ a0 a1 k, LeO (impl_behind.f k a0 a1) (impl_behind.f (k + 1) a0 a1) := by
  intro a0 a1 k
  have ih0 := impl_behind.mono_l k
  unfold impl_behind.f
  repeat' first
      | (with_reducible exact ih0 _ _ _ _)
      | (with_reducible exact LeO.refl _)
      | (with_reducible exact LeO.none _)
      | (with_reducible refine LeO.ite ?_ ?_)
      | (with_reducible refine LeO.bind ?_ (fun _ => ?_))
      | exact ih0 _ _ _ _
      | exact LeO.none _
      | refine LeO.ite ?_ ?_
      | refine LeO.bind ?_ (fun _ => ?_)
set_option maxHeartbeats 8000000 in
set_option maxRecDepth 100000 in
theorem impl_behind.calls (k : Nat) (a0 : Int) (A1 : Option Addr) (c1 : Nat) (l1 : List (S54)) (r : Int) (w : World) (hr1 : Kd.C k54 w A1 l1.length l1) (hc1 : l1.length ≤ c1) (h : impl_behind.f k a0 l1 = some r) :
    Calls Try.prog 38 #[.int .u16 a0, .slice A1 l1.length c1] w fun e w' => e = .returned (.int .u16 r) ∧ Below w.heap.size w w' := by
  have hu54 := Try.underlying54
  have HR1 := Aside0.mk hr1
  have HC1 := Aside0.mk hc1
  clear hr1 hc1
  have HB := Aside0.mk (Below.refl w.heap.size w)
  have H : (impl_behind.l0 k a0 l1 (l1.length : Int) 0) = some r := h
  clear h
  have H' := Aside0.mk H
  clear H
  go_enter Try.func38, Try.ntmps38
  go_wp2
  repeat (go_quiet (fail); try go_wp2)
  go_loopg [0, 9] k (fun kq v0 v9 w' => ∃ (x0_1 : Int) (x9_1 : Int), v0 = .int .u16 x0_1 ∧ v9 = .int .i64 x9_1 ∧ Aside0 (impl_behind.l0 kq x0_1 l1 (l1.length : Int) x9_1 = some r) ∧ Aside0 (kq ≤ k) ∧ Aside0 (Below w.heap.size w w'))
  case atStart => exact ⟨(a0), (0), (by first | rfl | (simp; done) | (simp [*]; done)), (by first | rfl | (simp; done) | (simp [*]; done)), H', ⟨Nat.le_refl _⟩, ⟨by repeat (first | (with_reducible first | exact HB.out | apply below_alloc | apply pw_below_drewN | apply below_drew1) | exact HB.out)⟩⟩
  case round =>
    clear H'
    try clear c1
    try clear p2
    obtain ⟨x0_1, x9_1, rfl, rfl, HA, HK1, HB⟩ := hrel
    cases gk with
    | zero => exact absurd HA.out (by simp [impl_behind.l0])
    | succ k1 =>
      have H := HA.out
      clear HA
      simp only [impl_behind.l0] at H
      by_cases c3 : x9_1 < (l1.length : Int)
      · rw [if_pos c3] at H
        have c3b0 : decide (x9_1 < (l1.length : Int)) = true := decide_eq_true c3
        clear c3
        by_cases c4 : 0 ≤ x9_1
        · rw [if_pos c4] at H
          have c4b0 : decide (0 ≤ x9_1) = true := decide_eq_true c4
          clear c4
          by_cases c5 : x9_1 < (l1.length : Int)
          · rw [if_pos c5] at H
            have c5b0 : decide (x9_1 < (l1.length : Int)) = true := decide_eq_true c5
            clear c5
            by_cases c6 : 0 ≤ ((rd_T54 l1 x9_1).f0)
            · rw [if_pos c6] at H
              have c6b0 := eq_true c6
              have c6b1 : decide (0 ≤ ((rd_T54 l1 x9_1).f0)) = true := decide_eq_true c6
              clear c6
              obtain ⟨ji7, hji7⟩ : ∃ j_ : Int, (shl .u16 1 ((rd_T54 l1 x9_1).f0)) = j_ := ⟨_, rfl⟩
              replace H : (if 0 ≤ ((rd_T54 l1 x9_1).f1) then (impl_behind.l0 k1 (Go.bits .or .u16 x0_1 (Go.bits .or .u16 (ji7) (shl .u16 1 ((rd_T54 l1 x9_1).f1)))) l1 (l1.length : Int) (wrap64 (x9_1 + 1))) else (none)) = some r := by first | (rw [hji7] at H; exact H) | (simp only [hji7] at H ⊢; exact H)
              have hji7_ : (IntKind.u16.wrap (1 * 2 ^ min ((rd_T54 l1 x9_1).f0).toNat 16)) = ji7 := hji7
              have hji7z : ((rd_T54 l1 x9_1).f0) ≤ 16 → (IntKind.u16.wrap (1 * 2 ^ ((rd_T54 l1 x9_1).f0).toNat)) = ji7 := shl_small hji7
              have hji7u : (IntKind.u16.wrap (2 ^ min ((rd_T54 l1 x9_1).f0).toNat 16)) = ji7 := by have h_ := hji7_; rw [Int.one_mul] at h_; exact h_
              have hji7v : ((rd_T54 l1 x9_1).f0) ≤ 16 → (IntKind.u16.wrap (2 ^ ((rd_T54 l1 x9_1).f0).toNat)) = ji7 := fun hle_ => by have h_ := hji7z hle_; rw [Int.one_mul] at h_; exact h_
              by_cases c8 : 0 ≤ ((rd_T54 l1 x9_1).f1)
              · rw [if_pos c8] at H
                have c8b0 := eq_true c8
                have c8b1 : decide (0 ≤ ((rd_T54 l1 x9_1).f1)) = true := decide_eq_true c8
                clear c8
                obtain ⟨ji9, hji9⟩ : ∃ j_ : Int, (shl .u16 1 ((rd_T54 l1 x9_1).f1)) = j_ := ⟨_, rfl⟩
                replace H : (impl_behind.l0 k1 (Go.bits .or .u16 x0_1 (Go.bits .or .u16 (ji7) (ji9))) l1 (l1.length : Int) (wrap64 (x9_1 + 1))) = some r := by first | (rw [hji9] at H; exact H) | (simp only [hji9] at H ⊢; exact H)
                have hji9_ : (IntKind.u16.wrap (1 * 2 ^ min ((rd_T54 l1 x9_1).f1).toNat 16)) = ji9 := hji9
                have hji9z : ((rd_T54 l1 x9_1).f1) ≤ 16 → (IntKind.u16.wrap (1 * 2 ^ ((rd_T54 l1 x9_1).f1).toNat)) = ji9 := shl_small hji9
                have hji9u : (IntKind.u16.wrap (2 ^ min ((rd_T54 l1 x9_1).f1).toNat 16)) = ji9 := by have h_ := hji9_; rw [Int.one_mul] at h_; exact h_
                have hji9v : ((rd_T54 l1 x9_1).f1) ≤ 16 → (IntKind.u16.wrap (2 ^ ((rd_T54 l1 x9_1).f1).toNat)) = ji9 := fun hle_ => by have h_ := hji9z hle_; rw [Int.one_mul] at h_; exact h_
                have H' := Aside0.mk H
                clear H
                have p203 : 0 ≤ (x9_1 : Int) := of_decide_eq_true (by first | (with_reducible assumption) | assumption)
                have q203 : x9_1 < (l1.length : Int) := of_decide_eq_true (by first | (with_reducible assumption) | assumption)
                obtain ⟨ad203, e203, hx203_0, hx203_1⟩ := at_T54 HR1.out x9_1 p203 q203
                cases e203
                replace hx203_0 := (HB.out.cell (World.block_lt_of_cell? w _ hx203_0)).trans hx203_0
                replace hx203_1 := (HB.out.cell (World.block_lt_of_cell? w _ hx203_1)).trans hx203_1
                replace p203 := eq_true p203
                replace q203 := eq_true q203
                go_wp2_with (first | ((with_reducible refine gate_dst (N := 6) rfl ?_); refine box_event ?hg (N := 6) ?hd (cs := #[.int .i64 0, .int .i64 0]) (t := 54) ?hr ?_; (case hd => rfl); (case hg => rfl); (case hr => first | (go_simp; done) | (go_simp; rfl)); intro gb204 hg w10 hbox hb; have n0_ := Aside0.mk (below_step (by repeat (first | (with_reducible first | exact HB.out | apply below_alloc | apply pw_below_drewN | apply below_drew1) | exact HB.out)) hb); have n1_ := Aside0.mk (hbox); have n2_ := Aside0.mk ((by rw [hg]; exact (below_size (by repeat (first | (with_reducible first | exact HB.out | apply below_alloc | apply pw_below_drewN | apply below_drew1) | exact HB.out))) : w.heap.size ≤ gb204)); have n3_ := Aside0.mk ((by rw [hg]; exact (below_size (by repeat (first | (with_reducible first | exact HB.out | apply below_alloc | apply pw_below_drewN | apply below_drew1) | exact HB.out))) : w.heap.size ≤ gb204)); clear HB; have HB := n0_; have BK204 := n1_; have GW204 := n2_; have GE204 := n3_; clear n0_ n1_ n2_ n3_; clear hb hbox hg; have hcz11_0 : w10.cell? ⟨gb204, 0, none⟩ = some (.int .i64 0) := (blk_cell BK204.out 0).trans rfl; have hcz11_1 : w10.cell? ⟨gb204, 1, none⟩ = some (.int .i64 0) := (blk_cell BK204.out 1).trans rfl; have hfz11_0 := blk_frozen BK204.out 0; have hfz11_1 := blk_frozen BK204.out 1))
                repeat (go_quiet (first | ((with_reducible refine gate_dst (N := 6) rfl ?_); refine box_event ?hg (N := 6) ?hd (cs := #[.int .i64 0, .int .i64 0]) (t := 54) ?hr ?_; (case hd => rfl); (case hg => rfl); (case hr => first | (go_simp; done) | (go_simp; rfl)); intro gb204 hg w10 hbox hb; have n0_ := Aside0.mk (below_step (by repeat (first | (with_reducible first | exact HB.out | apply below_alloc | apply pw_below_drewN | apply below_drew1) | exact HB.out)) hb); have n1_ := Aside0.mk (hbox); have n2_ := Aside0.mk ((by rw [hg]; exact (below_size (by repeat (first | (with_reducible first | exact HB.out | apply below_alloc | apply pw_below_drewN | apply below_drew1) | exact HB.out))) : w.heap.size ≤ gb204)); have n3_ := Aside0.mk ((by rw [hg]; exact (below_size (by repeat (first | (with_reducible first | exact HB.out | apply below_alloc | apply pw_below_drewN | apply below_drew1) | exact HB.out))) : w.heap.size ≤ gb204)); clear HB; have HB := n0_; have BK204 := n1_; have GW204 := n2_; have GE204 := n3_; clear n0_ n1_ n2_ n3_; clear hb hbox hg; have hcz11_0 : w10.cell? ⟨gb204, 0, none⟩ = some (.int .i64 0) := (blk_cell BK204.out 0).trans rfl; have hcz11_1 : w10.cell? ⟨gb204, 1, none⟩ = some (.int .i64 0) := (blk_cell BK204.out 1).trans rfl; have hfz11_0 := blk_frozen BK204.out 0; have hfz11_1 := blk_frozen BK204.out 1)); try go_wp2_with (first | ((with_reducible refine gate_dst (N := 6) rfl ?_); refine box_event ?hg (N := 6) ?hd (cs := #[.int .i64 0, .int .i64 0]) (t := 54) ?hr ?_; (case hd => rfl); (case hg => rfl); (case hr => first | (go_simp; done) | (go_simp; rfl)); intro gb204 hg w10 hbox hb; have n0_ := Aside0.mk (below_step (by repeat (first | (with_reducible first | exact HB.out | apply below_alloc | apply pw_below_drewN | apply below_drew1) | exact HB.out)) hb); have n1_ := Aside0.mk (hbox); have n2_ := Aside0.mk ((by rw [hg]; exact (below_size (by repeat (first | (with_reducible first | exact HB.out | apply below_alloc | apply pw_below_drewN | apply below_drew1) | exact HB.out))) : w.heap.size ≤ gb204)); have n3_ := Aside0.mk ((by rw [hg]; exact (below_size (by repeat (first | (with_reducible first | exact HB.out | apply below_alloc | apply pw_below_drewN | apply below_drew1) | exact HB.out))) : w.heap.size ≤ gb204)); clear HB; have HB := n0_; have BK204 := n1_; have GW204 := n2_; have GE204 := n3_; clear n0_ n1_ n2_ n3_; clear hb hbox hg; have hcz11_0 : w10.cell? ⟨gb204, 0, none⟩ = some (.int .i64 0) := (blk_cell BK204.out 0).trans rfl; have hcz11_1 : w10.cell? ⟨gb204, 1, none⟩ = some (.int .i64 0) := (blk_cell BK204.out 1).trans rfl; have hfz11_0 := blk_frozen BK204.out 0; have hfz11_1 := blk_frozen BK204.out 1)))
                go_roundg k1
                case measure => have := HK1.out; omega
                case rel => exact ⟨(Go.bits .or .u16 x0_1 (Go.bits .or .u16 (ji7) (ji9))), (wrap64 (x9_1 + 1)), (by first | rfl | (simp; done) | (simp only [← hji7, ← hji9] <;> (first | rfl | simp)) | (simp [*]; done)), (by first | rfl | (simp; done) | (simp [*]; done)), H', ⟨by have := HK1.out; omega⟩, ⟨by repeat (first | (with_reducible first | exact HB.out | apply below_alloc | apply pw_below_drewN | apply below_drew1 | refine below_set ?_ GE204.out) | exact HB.out)⟩⟩
              · rw [if_neg c8] at H
                exact absurd H (by simp)
            · rw [if_neg c6] at H
              exact absurd H (by simp)
          · rw [if_neg c5] at H
            exact absurd H (by simp)
        · rw [if_neg c4] at H
          exact absurd H (by simp)
      · rw [if_neg c3] at H
        have c3b0 : decide (x9_1 < (l1.length : Int)) = false := decide_eq_false c3
        clear c3
        obtain rfl := Option.some.inj H
        go_wp2
        repeat (go_quiet (fail); try go_wp2)
        go_ret
        exact ⟨by first | rfl | (simp [errW_none, errW_some] <;> rfl) | (simp [*, errW_none, errW_some] <;> rfl), by repeat (first | (with_reducible first | exact HB.out | apply below_alloc | apply pw_below_drewN | apply below_drew1) | exact HB.out)⟩

/-! ### bits_OnesCount16: function 39 -/
def bits_OnesCount16.f (a0 : Int) : Option Int := if 0 ≤ a0 ∧ a0 ≤ 65535 then some ((Lib.onesCount (a0.toNat / 256) + Lib.onesCount (a0.toNat % 256) : Nat) : Int) else none
set_option maxHeartbeats 2000000 in
set_option maxRecDepth 100000 in
theorem bits_OnesCount16.calls (a0 : Int) (r : Int) (w : World) (h : bits_OnesCount16.f a0 = some r) :
    Calls Try.prog 39 #[.int .u16 a0] w fun e w' => e = .returned (.int .i64 r) ∧ Drawn0 w w' := by
  unfold bits_OnesCount16.f at h
  split at h
  case isFalse => cases h
  rename_i hb
  cases h
  go_enter Try.func39, Try.ntmps39
  have e1 : decide (0 ≤ a0 / 256) = true := decide_eq_true (by omega)
  have e2 : decide (a0 / 256 < 256) = true := decide_eq_true (by omega)
  have hi1 : 0 ≤ a0 / 256 ∧ a0 / 256 < (Lib.pop8tab.size : Int) := by rw [Lib.pop8tab_size]; omega
  have hi2 : 0 ≤ a0 % 256 ∧ a0 % 256 < (Lib.pop8tab.size : Int) := by rw [Lib.pop8tab_size]; omega
  go_wp2
  refine start_ (n := 9) (S := fun _ => True) (ds := []) #[false, false, false, false, false, false, false, false, false] (by kernel_rfl) rfl rfl trivial (fun hHeld => ?_)
  have HD : Drawn0 w w.drew := by repeat (first | exact Drawn0.refl _ | apply Drawn0.step)
  generalize w.drew = wd at HD ⊢
  refine pure_ (i := 0) (N := some 3) (v := ?_) (a' := ?_) #[true, false, false, false, false, false, false, false, false] rfl rfl (by kernel_rfl) (fun _ _ _ h => h) (Or.inl ⟨by rfl, ?_⟩) ?_ ?_
  rotate_left
  · intro w'
    go_simp
    with_reducible rfl
  rotate_left
  · simp only [Act.put, List.setIfInBounds_toArray, List.set_cons_zero, List.set_cons_succ, i64_w, i32_w]
    rfl
  refine pure_ (i := 1) (N := some 4) (v := ?_) (a' := ?_) #[true, true, false, false, false, false, false, false, false] rfl rfl (by kernel_rfl) (fun _ _ _ h => h) (Or.inl ⟨by rfl, ?_⟩) ?_ ?_
  rotate_left
  · intro w'
    go_simp
    with_reducible rfl
  rotate_left
  · simp only [Act.put, List.setIfInBounds_toArray, List.set_cons_zero, List.set_cons_succ, i64_w, i32_w]
    rfl
  refine pure_ (i := 3) (N := some 6) (v := ?_) (a' := ?_) #[true, true, false, true, false, false, false, false, false] rfl rfl (by kernel_rfl) (fun _ _ _ h => h) (Or.inl ⟨by rfl, ?_⟩) ?_ ?_
  rotate_left
  · intro w'
    go_simp
    with_reducible rfl
  rotate_left
  · simp only [Act.put, List.setIfInBounds_toArray, List.set_cons_zero, List.set_cons_succ, i64_w, i32_w]
    rfl
  refine pure_ (i := 4) (N := some 7) (v := ?_) (a' := ?_) #[true, true, false, true, true, false, false, false, false] rfl rfl (by kernel_rfl) (fun _ _ _ h => h) (Or.inl ⟨by rfl, ?_⟩) ?_ ?_
  rotate_left
  · intro w'
    go_simp
    with_reducible rfl
  rotate_left
  · simp only [Act.put, List.setIfInBounds_toArray, List.set_cons_zero, List.set_cons_succ, i64_w, i32_w]
    rfl
  refine pure_ (i := 2) (N := some 5) (v := ?_) (a' := ?_) #[true, true, true, true, true, false, false, false, false] rfl rfl (by kernel_rfl) (fun _ _ _ h => h) (Or.inl ⟨by rfl, ?_⟩) ?_ ?_
  rotate_left
  · intro w'
    go_simp
    with_reducible rfl
  rotate_left
  · simp only [Act.put, List.setIfInBounds_toArray, List.set_cons_zero, List.set_cons_succ, i64_w, i32_w]
    rfl
  have hm : bits BinOp.and IntKind.u16 a0 255 = a0 % 256 := by
    obtain ⟨n, rfl⟩ := Int.eq_ofNat_of_zero_le hb.1
    have h1 := (bits_nat .u16 16 (by decide) (fun m h0 h1 => by rw [IntKind.wrap_u16]; simp at h1; omega) n 255 (by omega) (by decide)).1
    have h2 : n &&& 255 = n % 256 := Nat.and_two_pow_sub_one_eq_mod n 8
    rw [h2] at h1
    have h3 : ((n % 256 : Nat) : Int) = (n : Int) % 256 := by omega
    rw [← h3]
    exact h1
  rw [hm]
  refine pure_ (i := 5) (N := some 8) (v := ?_) (a' := ?_) #[true, true, true, true, true, true, false, false, false] rfl rfl (by kernel_rfl) (fun _ _ _ h => h) (Or.inl ⟨by rfl, ?_⟩) ?_ ?_
  rotate_left
  · intro w'
    go_simp
    with_reducible rfl
  rotate_left
  · simp only [Act.put, List.setIfInBounds_toArray, List.set_cons_zero, List.set_cons_succ, i64_w, i32_w]
    rfl
  refine pure_ (i := 6) (N := some 9) (v := ?_) (a' := ?_) #[true, true, true, true, true, true, true, false, false] rfl rfl (by kernel_rfl) (fun _ _ _ h => h) (Or.inl ⟨by rfl, ?_⟩) ?_ ?_
  rotate_left
  · intro w'
    go_simp
    with_reducible rfl
  rotate_left
  · simp only [Act.put, List.setIfInBounds_toArray, List.set_cons_zero, List.set_cons_succ, i64_w, i32_w]
    rfl
  refine pure_ (i := 7) (N := some 10) (v := ?_) (a' := ?_) #[true, true, true, true, true, true, true, true, false] rfl rfl (by kernel_rfl) (fun _ _ _ h => h) (Or.inl ⟨by rfl, ?_⟩) ?_ ?_
  rotate_left
  · intro w'
    go_simp
    with_reducible rfl
  rotate_left
  · simp only [Act.put, List.setIfInBounds_toArray, List.set_cons_zero, List.set_cons_succ, i64_w, i32_w]
    rfl
  refine pure_ (i := 8) (N := some 2) (v := ?_) (a' := ?_) #[true, true, true, true, true, true, true, true, true] rfl rfl (by kernel_rfl) (fun _ _ _ h => h) (Or.inl ⟨by rfl, ?_⟩) ?_ ?_
  rotate_left
  · intro w'
    go_simp
    with_reducible rfl
  rotate_left
  · simp only [Act.put, List.setIfInBounds_toArray, List.set_cons_zero, List.set_cons_succ, i64_w, i32_w]
    rfl
  refine done_ (by kernel_rfl) ?_
  go_wp2
  go_ret
  have k1 : ∀ x : Int, 0 ≤ x → x ≤ 255 → Lib.pop8 x = (Lib.onesCount x.toNat : Int) ∧ Lib.onesCount x.toNat ≤ 8 := fun x h0 h1 => by
    have e := Lib.pop8_eq ⟨x.toNat, by omega⟩
    have l := Lib.onesCount_le8 ⟨x.toNat, by omega⟩
    simp only [Int.toNat_of_nonneg h0] at e
    exact ⟨e, l⟩
  obtain ⟨k2, k3⟩ := k1 (a0 / 256) (by omega) (by omega)
  obtain ⟨k4, k5⟩ := k1 (a0 % 256) (by omega) (by omega)
  have hlt : (a0 / 256).toNat < Lib.pop8tab.size := by rw [Lib.pop8tab_size]; omega
  have k6 : ((Lib.pop8tab[(a0 / 256).toNat]'hlt).toNat : Int) = Lib.pop8 (a0 / 256) := by
    unfold Lib.pop8
    rw [getElem?_pos Lib.pop8tab (a0 / 256).toNat hlt]
    rfl
  have t1 : (a0 / 256).toNat = a0.toNat / 256 := by omega
  have t2 : (a0 % 256).toNat = a0.toNat % 256 := by omega
  rw [t1] at k2 k3
  rw [t2] at k4 k5
  have hv : wrap64 (IntKind.u8.wrap (((Lib.pop8tab[(a0 / 256).toNat]'hlt).toNat : Int) + Lib.pop8 (a0 % 256))) = ((Lib.onesCount (a0.toNat / 256) + Lib.onesCount (a0.toNat % 256) : Nat) : Int) := by
    rw [k6, k2, k4, IntKind.wrap_u8]
    unfold wrap64
    omega
  exact ⟨congrArg (fun z => Ending.returned (.int .i64 z)) hv, HD⟩


end Go.Proofs.Ytoncbgjbkgdbaaa.PFnExactMostInformed
