-- Written by a program of this claim, over the kit's print: the functions that a law reaches, their plain forms and the walks.
import Derived.Test.YtbghdbpaihkcjaaDoorPFnExactBestTestx0
import Derived.Test.YtbghdbpaihkcjaaDoorPFnExactBestTestx2
import Derived.Test.YtbghdbpaihkcjaaDoorPFnExactBestTestx3
namespace Go.Proofs.YtbghdbpaihkcjaaDoor.PFnExactBestTest
open Go.RowKit Go.Proofs.YtbghdbpaihkcjaaDoorW.PrintWords Go.Proofs.YtbghdbpaihkcjaaDoorW.PrintLast Go.Proofs.YtbghdbpaihkcjaaDoorW.PrintMore
attribute [local go_sem] max2_int min2_int max_two min_two max_three min_three max_four min_four   -- for this text's walks alone
set_option linter.unusedVariables false
set_option linter.unusedSimpArgs false

/-! ### spec_BestTest: function 24 -/
/-- The numbers of the sets. -/
def spec_BestTest.runfit (k : Nat) : List (List Int) → List Int → Option (List Int)
  | [], acc => some acc
  | b :: bs, acc => (spec_wiBits.f k b).bind fun t => if acc.length < 17592186044416 then spec_BestTest.runfit k bs (acc ++ [t]) else none
/-- How many of the numbers meet bits. -/
def spec_BestTest.p_cnt (bits : Int) : List Int → Int → Int
  | [], n => n
  | b :: bs, n => spec_BestTest.p_cnt bits bs (if Go.bits .and .i64 bits b = 0 then n else wrap64 (n + 1))
def spec_BestTest.runbest (k : Nat) (fit : List Int) : List (List Int) → List Int → Int → Option (List Int × Int)
  | [], best, least => some (best, least)
  | b :: bs, best, least => (spec_wiBits.f k b).bind fun bits => (spec_l1Most.f (spec_BestTest.p_cnt bits fit 0) (wrap64 ((fit.length : Int) - spec_BestTest.p_cnt bits fit 0))).bind fun n => if n < least then spec_BestTest.runbest k fit bs b n else spec_BestTest.runbest k fit bs best least
def spec_BestTest.f (k : Nat) (a0 : Int) (l1 : List (List Int)) (a2 : ByteArray) (a3 : Int) : Option (List Int × Int × Bool) := (spec_wiAsked.f k a0 l1 a2 a3).bind fun q => if q = true then (spec_wiFit.f k a0 l1 a2 a3).bind fun rows => (spec_BestTest.runfit k rows []).bind fun fit => if fit.length = 0 then some ([], 0, false) else (spec_wiAll.f k a0 a0).bind fun all => if 1 ≤ all.length then (spec_BestTest.runbest k fit (all.drop 1) [] (wrap64 ((fit.length : Int) + 1))).bind fun s => some (s.1, s.2, true) else none else some ([], 0, false)
theorem spec_BestTest.mono_fit (k : Nat) : ∀ bs acc, LeO (spec_BestTest.runfit k bs acc) (spec_BestTest.runfit (k + 1) bs acc)
  | [], _ => LeO.refl _
  | _ :: bs, _ => LeO.bind (spec_wiBits.mono _ _) (fun _ => LeO.ite (spec_BestTest.mono_fit k bs _) (LeO.refl _))
theorem spec_BestTest.mono_best (k : Nat) (fit : List Int) : ∀ bs best least, LeO (spec_BestTest.runbest k fit bs best least) (spec_BestTest.runbest (k + 1) fit bs best least)
  | [], _, _ => LeO.refl _
  | _ :: bs, _, _ => LeO.bind (spec_wiBits.mono _ _) (fun _ => LeO.bind (LeO.refl _) (fun _ => LeO.ite (spec_BestTest.mono_best k fit bs _ _) (spec_BestTest.mono_best k fit bs _ _)))
theorem spec_BestTest.mono : ∀ a0 a1 a2 a3 k, LeO (spec_BestTest.f k a0 a1 a2 a3) (spec_BestTest.f (k + 1) a0 a1 a2 a3) := fun a0 a1 a2 a3 k => LeO.bind (spec_wiAsked.mono _ _ _ _ _) (fun _ => LeO.ite (LeO.bind (spec_wiFit.mono _ _ _ _ _) (fun _ => LeO.bind (spec_BestTest.mono_fit _ _ _) (fun _ => LeO.ite (LeO.refl _) (LeO.bind (spec_wiAll.mono _ _ _) (fun _ => LeO.ite (LeO.bind (spec_BestTest.mono_best _ _ _ _ _) (fun _ => LeO.refl _)) (LeO.refl _)))))) (LeO.refl _))
/-- An element of a row whose rows are only read. -/
theorem spec_BestTest.elem {rows : List (List Int)} {w : World} {B : Nat} {ok : Nat → Prop} {A : Option Addr} {c : Nat} (h : Kd.N (Kd.slice 3 (Kd.int .i64)) 24 w B ok (.slice A rows.length c) rows) (i : Nat) (hi : i < rows.length) :
    ∃ (ad : Addr) (A1 : Option Addr) (c1 : Nat) (a : List Int), A = some ad ∧ rows.drop i = a :: rows.drop (i + 1) ∧ w.cell? (ad.add i) = some (.slice A1 a.length c1) ∧ a.length ≤ c1 ∧ Kd.F (Kd.int .i64) w ok A1 a.length a := by
  obtain ⟨ad, rfl⟩ : ∃ ad, A = some ad := by
    obtain ⟨ad, h1, _⟩ := (Kd.N_reads' h).2.2.2.2 (by omega)
    exact ⟨ad, h1⟩
  obtain ⟨ce, hce, hMe, hcc⟩ := Kd.N_get h [] (i : Int) (by omega) (by omega)
  obtain ⟨ua, uc, rfl, ul, ge⟩ := Kd.FK_slice_open hMe
  have hv := hcc 0 _ rfl
  rw [Nat.add_zero, show ((Kd.slice 3 (Kd.int .i64))).sz = 1 from rfl, Nat.mul_one] at hv
  simp only [Int.toNat_natCast] at hv ul ge
  refine ⟨ad, ua, uc, rows.getD i [], rfl, ?_, hv, ul, Kd.F_mono ge (fun _ hk => hk.1)⟩
  rw [List.drop_eq_getElem_cons hi, List.getD_eq_getElem?_getD, List.getElem?_eq_getElem hi]
  rfl
set_option maxHeartbeats 4000000 in
set_option maxRecDepth 100000 in
theorem spec_BestTest.calls (k : Nat) (a0 : Int) (A1 : Option Addr) (c1 : Nat) (l1 : List (List Int)) (a2 : ByteArray) (a3 : Int) (r1 : List Int) (r2 : Int) (r3 : Bool) (w : World) (hr1 : Kd.C (Kd.slice 3 (Kd.int .i64)) w A1 l1.length l1) (hc1 : l1.length ≤ c1) (h : spec_BestTest.f k a0 l1 a2 a3 = some (r1, r2, r3)) :
    Calls Tryd.prog 24 #[.int .i64 a0, .slice A1 l1.length c1, .string a2, .int .i64 a3] w fun e w' => ∃ v0_ : Value, e = .returned (.tuple #[v0_, .int .i64 r2, .bool r3]) ∧ Kd.V (Kd.int .i64) 3 w' w.heap.size (fun k_ => (w.heap.size ≤ k_)) v0_ r1 ∧ Below w.heap.size w w' := by
  obtain ⟨q, hq, h⟩ := Option.bind_eq_some_iff.mp h
  have HR := Aside0.mk hr1
  have HC := Aside0.mk hc1
  have HQ := Aside0.mk hq
  have H := Aside0.mk h
  clear hr1 hc1 hq h
  go_enter Tryd.func24, Tryd.ntmps24
  go_wp2_with fail
  refine (spec_wiAsked.calls k a0 A1 c1 l1 a2 a3 q _ HR.out HC.out HQ.out).mono ?_
  rintro e w1 ⟨rfl, hb⟩
  have B1 := Aside0.mk hb
  clear hb
  cases q with
  | false =>
    have h := H.out
    rw [if_neg (by decide)] at h
    simp only [Option.some.injEq, Prod.mk.injEq] at h
    obtain ⟨rfl, rfl, rfl⟩ := h
    clear H
    go_wp2
    go_ret3
    exact ⟨_, rfl, Kd.V_nil _ _ _ _ _, B1.out⟩
  | true =>
    have h := H.out
    rw [if_pos rfl] at h
    obtain ⟨rows, hrows, h⟩ := Option.bind_eq_some_iff.mp h
    obtain ⟨fit, hfit, h⟩ := Option.bind_eq_some_iff.mp h
    have HRW := Aside0.mk hrows
    have HFT := Aside0.mk hfit
    have H2 := Aside0.mk h
    clear h H hrows hfit
    go_wp2_with fail
    refine (spec_wiFit.calls k a0 A1 c1 l1 a2 a3 rows _ (Kd.C_below HR.out B1.out) HC.out HRW.out).mono ?_
    rintro e w2 ⟨v2, rfl, hN, hb⟩
    obtain ⟨A2, c2, rfl⟩ := Kd.N_slice hN
    have HN := Aside0.mk hN
    have B2 := Aside0.mk (below_step B1.out hb)
    clear hN hb
    go_wp2
    go_loopg [11, 34] (rows.length + 1) (fun gg v11 v34 wr => ∃ (x : Nat) (acc : List Int), v34 = .int .i64 (x : Int) ∧ Aside0 (x ≤ rows.length ∧ rows.length - x ≤ gg) ∧ Aside0 (spec_BestTest.runfit k (rows.drop x) acc = some fit) ∧ Aside0 (Kd.R (Kd.int .i64) 3 wr w2.heap.size (fun _ => True) v11 acc) ∧ Aside0 (Below w2.heap.size w2 wr))
    case atStart => exact ⟨0, [], rfl, ⟨by omega, by omega⟩, ⟨by rw [List.drop_zero]; exact HFT.out⟩, ⟨Kd.R_nil _ _ _ _ _⟩, ⟨Below.refl _ _⟩⟩
    case round =>
      clear HFT
      obtain ⟨x, acc, rfl, HX, HRUN, HA, HB⟩ := hrel
      by_cases hx : x < rows.length
      · obtain ⟨ad2, A5, c5, b, rfl, hdr, hcell, hl5, hF5⟩ := spec_BestTest.elem HN.out x hx
        have hrun := HRUN.out
        rw [hdr] at hrun
        unfold spec_BestTest.runfit at hrun
        obtain ⟨t, ht, hrest⟩ := Option.bind_eq_some_iff.mp hrun
        by_cases hlim : acc.length < 17592186044416
        case neg => rw [if_neg hlim] at hrest; cases hrest
        rw [if_pos hlim] at hrest
        have HT := Aside0.mk ht
        have HREST := Aside0.mk hrest
        have HL5 := Aside0.mk hl5
        have HF5 := Aside0.mk (Kd.F_below hF5 HB.out)
        have HXX := Aside0.mk hx
        have HLIM := Aside0.mk hlim
        have hcell2 := (HB.out.cell (World.block_lt_of_cell? _ _ hcell)).trans hcell
        have hx1 : decide ((x : Int) < (rows.length : Int)) = true := decide_eq_true (by omega)
        have hx2 : ((x : Int) < (rows.length : Int)) = True := eq_true (by omega)
        have hx3 : (x < rows.length) = True := eq_true hx
        have hxw : wrap64 ((x : Int) + 1) = (x : Int) + 1 := by have := (Kd.N_reads' HN.out).2.2.2.1; unfold wrap64; omega
        clear hdr hrun ht hrest hl5 hF5 HRUN hx hlim hcell
        go_wp2_with fail
        refine (spec_wiBits.calls k A5 c5 b t _ (Kd.F_now HF5.out) HL5.out HT.out).mono ?_
        rintro e w3 ⟨rfl, ⟨nd, rfl⟩⟩
        have HA2 := Aside0.mk (Kd.R_drewN HA.out nd)
        have HB2 := Aside0.mk (pw_below_drewN HB.out nd)
        clear HA HB hcell2 HF5
        generalize wr.drewN nd = w4 at HA2 HB2 ⊢
        go_wp2_with ((with_reducible refine gate_builtin (b := .append) (xs := #[.tmp 38, .tmp 41]) rfl ?_); at_builtin; refine Kd.R_append (Kd.int .i64) (w0 := w2) w2.heap.size rfl (.tmp 38) (.tmp 41) 24 3 (.int .i64 0) 8 rfl Tryd.underlying24 info3 rfl (by decide) (by omega) u11 acc t [.int .i64 t] (fun _ => True) (fun _ => False) rfl rfl ?aP (fun _ hk => hk.elim) ?aF ?aO ?aB ?aS ?aL ?_; (case aP => exact rfl); (case aB => exact (by repeat (first | (with_reducible first | exact HB2.out | apply below_alloc | apply pw_below_drewN | apply below_drew1) | exact HB2.out))); (case aF => exact (fun _ _ => trivial)); (case aO => exact (by (with_reducible repeat (first | apply Kd.R_alloc | apply Kd.R_drewN | apply Kd.R_drew)); exact HA2.out)); (case aS => exact (below_size (by repeat (first | (with_reducible first | exact HB2.out | apply below_alloc | apply pw_below_drewN | apply below_drew1) | exact HB2.out)))); (case aL => have := HLIM.out; omega); intro v5 w5 ho hb hg hat; have HA5 := Aside0.mk ho; have HB5 := Aside0.mk hb; clear HA2 HB2 ho hb hg hat)
        go_roundg (rows.length - (x + 1))
        case measure => have := HX.out; have := HXX.out; omega
        case rel => exact ⟨x + 1, acc ++ [t], by first | rfl | (simp; done) | (rw [hxw]; rfl) | (rw [hxw]), ⟨by have := HXX.out; omega, by omega⟩, HREST, HA5, HB5⟩
      · have hx1 : decide ((x : Int) < (rows.length : Int)) = false := decide_eq_false (by omega)
        have hx2 : ((x : Int) < (rows.length : Int)) = False := eq_false (by omega)
        have hx3 : (x < rows.length) = False := eq_false hx
        have hrun := HRUN.out
        rw [List.drop_eq_nil_of_le (by omega)] at hrun
        unfold spec_BestTest.runfit at hrun
        obtain rfl : fit = acc := (Option.some.inj hrun).symm
        clear hrun HRUN hx
        obtain ⟨A3, c3, rfl⟩ := Kd.R_slice HA.out
        have hc3 := (Kd.R_reads' HA.out).2.1
        by_cases hz : fit.length = 0
        · have h := H2.out
          rw [if_pos hz] at h
          simp only [Option.some.injEq, Prod.mk.injEq] at h
          obtain ⟨rfl, rfl, rfl⟩ := h
          have hz1 : ((fit.length : Int) == 0) = true := beq_iff_eq.mpr (by omega)
          clear H2
          go_wp2
          go_ret3
          exact ⟨_, rfl, Kd.V_nil _ _ _ _ _, below_step B2.out HB.out⟩
        · have h := H2.out
          rw [if_neg hz] at h
          obtain ⟨all, hall, h⟩ := Option.bind_eq_some_iff.mp h
          by_cases h1 : 1 ≤ all.length
          case neg => rw [if_neg h1] at h; cases h
          rw [if_pos h1] at h
          obtain ⟨⟨s1, s2⟩, hs, h⟩ := Option.bind_eq_some_iff.mp h
          simp only [Option.some.injEq, Prod.mk.injEq] at h
          obtain ⟨rfl, rfl, rfl⟩ := h
          have HALL := Aside0.mk hall
          have HS := Aside0.mk hs
          have HZ := Aside0.mk hz
          have HA1 := Aside0.mk h1
          have hz1 : ((fit.length : Int) == 0) = false := beq_eq_false_iff_ne.mpr (by omega)
          clear H2 hall hs hz h1
          go_wp2_with fail
          refine (spec_wiAll.calls k a0 a0 all _ HALL.out).mono ?_
          rintro e w6 ⟨v6, rfl, hN6, hb6⟩
          obtain ⟨A6, c6, rfl⟩ := Kd.N_slice hN6
          have HN6 := Aside0.mk (Kd.N_lower hN6 (Nat.le_trans B2.out.size HB.out.size))
          have HF := Aside0.mk (Kd.R_below HA.out hb6)
          have B6 := Aside0.mk (show Below w.heap.size w w6 from below_step (below_step B2.out HB.out) hb6)
          have HSZ := Aside0.mk (Nat.le_trans B2.out.size HB.out.size)
          clear hN6 hb6 HA HB
          obtain ⟨g3, cap3, hv3, _⟩ := Kd.R_form HF.out (by have := HZ.out; omega)
          cases hv3
          obtain ⟨g6, cap6, hv6, _⟩ := Kd.N_form HN6.out (by have := HA1.out; omega)
          cases hv6
          have hc6 := (Kd.N_reads' HN6.out).2.1
          have HC6 := Aside0.mk hc6
          have q1 : (1 ≤ all.length) = True := eq_true HA1.out
          have q2 : ((1 : Int) ≤ (all.length : Int)) = True := eq_true (by have := HA1.out; omega)
          have q3 : decide ((1 : Int) ≤ (all.length : Int)) = true := decide_eq_true (by have := HA1.out; omega)
          have q4 : (all.length ≤ c6) = True := eq_true hc6
          have q5 : ((all.length : Int) ≤ (c6 : Int)) = True := eq_true (by omega)
          have q6 : decide ((all.length : Int) ≤ (c6 : Int)) = true := decide_eq_true (by omega)
          clear hc6
          by_cases h6 : c6 = 1
          · have e1 : all.length = 1 := by have := HA1.out; have := HC6.out; omega
            have hs := HS.out
            rw [List.drop_eq_nil_of_le (by omega)] at hs
            unfold spec_BestTest.runbest at hs
            obtain ⟨rfl, rfl⟩ := Prod.mk.inj (Option.some.inj hs)
            have q7 : (c6 = 1) = True := eq_true h6
            have E1 := Aside0.mk e1
            clear hs HS e1
            go_wp2
            clear q1 q2 q3 q4 q5 q6 q7 h6
            go_loopg [14, 15, 55] 1 (fun gg v14 v15 v55 wr => v14 = .slice none 0 0 ∧ v15 = .int .i64 (wrap64 ((fit.length : Int) + 1)) ∧ v55 = .int .i64 0 ∧ Aside0 (Below w6.heap.size w6 wr))
            case atStart => exact ⟨rfl, rfl, rfl, ⟨Below.refl _ _⟩⟩
            case round =>
              obtain ⟨rfl, rfl, rfl, HB⟩ := hrel
              have y1 : decide ((0 : Int) < ((all.length - 1 : Nat) : Int)) = false := decide_eq_false (by have := E1.out; omega)
              have y2 : ((0 : Int) < ((all.length - 1 : Nat) : Int)) = False := eq_false (by have := E1.out; omega)
              have y3 : (0 < all.length - 1) = False := eq_false (by have := E1.out; omega)
              have y4 : (1 < all.length) = False := eq_false (by have := E1.out; omega)
              go_wp2
              go_ret3
              exact ⟨_, rfl, Kd.V_nil _ _ _ _ _, below_step B6.out HB.out⟩
          · have q7 : (c6 = 1) = False := eq_false h6
            go_wp2
            clear q1 q2 q3 q4 q5 q6 q7 h6
            go_loopg [14, 15, 55] (all.length + 1) (fun gg v14 v15 v55 wr => ∃ (y : Nat) (best : List Int) (least : Int), v15 = .int .i64 least ∧ v55 = .int .i64 (y : Int) ∧ Aside0 (y + 1 ≤ all.length ∧ all.length - y ≤ gg) ∧ Aside0 (spec_BestTest.runbest k fit (all.drop (y + 1)) best least = some (s1, s2)) ∧ Aside0 (Kd.V (Kd.int .i64) 3 w6 w.heap.size (fun k_ => (w.heap.size ≤ k_)) v14 best) ∧ Aside0 (Below w6.heap.size w6 wr))
            case atStart => exact ⟨0, [], _, rfl, rfl, ⟨by have := HA1.out; omega, by omega⟩, HS, ⟨Kd.V_nil _ _ _ _ _⟩, ⟨Below.refl _ _⟩⟩
            case round =>
              clear HS
              obtain ⟨y, best, least, rfl, rfl, HY, HRUN, HV, HB⟩ := hrel
              by_cases hy : y + 1 < all.length
              · obtain ⟨ad, A5, c5, b, hA6, hdr, hcell, hl5, hF5⟩ := spec_BestTest.elem HN6.out (y + 1) hy
                cases hA6
                have hrun := HRUN.out
                rw [hdr] at hrun
                unfold spec_BestTest.runbest at hrun
                obtain ⟨bits, hbits, hrun⟩ := Option.bind_eq_some_iff.mp hrun
                obtain ⟨n, hn, hrest⟩ := Option.bind_eq_some_iff.mp hrun
                have HBT := Aside0.mk hbits
                have HNN := Aside0.mk hn
                have HREST := Aside0.mk hrest
                have HL5 := Aside0.mk hl5
                have HV5 := Aside0.mk (show Kd.V (Kd.int .i64) 3 w6 w.heap.size (fun k_ => (w.heap.size ≤ k_)) (.slice A5 b.length c5) b from Kd.V_mk hl5 (Kd.F_mono hF5 (fun _ hk => Nat.le_trans HSZ.out hk)))
                have HF5 := Aside0.mk (Kd.F_below hF5 HB.out)
                have HYY := Aside0.mk hy
                have hcell2 := (HB.out.cell (World.block_lt_of_cell? _ _ hcell)).trans hcell
                rw [add_at, Nat.zero_add] at hcell2
                have hcell3 : wr.cell? ⟨g6, 1 + y, none⟩ = some (.slice A5 b.length c5) := by rw [Nat.add_comm]; exact hcell2
                have hcell4 : wr.cell? (((⟨g6, 0, none⟩ : Addr).add 1).add y) = some (.slice A5 b.length c5) := by rw [add_at, add_at, Nat.zero_add, Nat.add_comm]; exact hcell2
                have hcell5 : wr.cell? ((⟨g6, 1, none⟩ : Addr).add y) = some (.slice A5 b.length c5) := by rw [add_at, Nat.add_comm]; exact hcell2
                have e1 : ((all.length - 1 : Nat) : Int) = (all.length : Int) - 1 := by omega
                have y1 : decide ((y : Int) < ((all.length - 1 : Nat) : Int)) = true := decide_eq_true (by omega)
                have y2 : ((y : Int) < ((all.length - 1 : Nat) : Int)) = True := eq_true (by omega)
                have y3 : (y < all.length - 1) = True := eq_true (by omega)
                have y4 : decide (y < all.length - 1) = true := decide_eq_true (by omega)
                have yw : wrap64 ((y : Int) + 1) = (y : Int) + 1 := by have := (Kd.N_reads' HN6.out).2.2.2.1; unfold wrap64; omega
                clear hdr hrun hbits hn hrest hl5 hF5 HRUN hy hcell e1
                go_wp2_with fail
                refine (spec_wiBits.calls k A5 c5 b bits _ (Kd.F_now HF5.out) HL5.out HBT.out).mono ?_
                rintro e w7 ⟨rfl, ⟨nd, rfl⟩⟩
                have HB2 := Aside0.mk (pw_below_drewN HB.out nd)
                clear HB hcell2 hcell3 hcell4 hcell5 HF5
                generalize wr.drewN nd = w8 at HB2 ⊢
                go_wp2
                go_loopg [19, 63] (fit.length + 1) (fun gg v19 v63 wr => ∃ (z : Nat) (n0 : Int), v19 = .int .i64 n0 ∧ v63 = .int .i64 (z : Int) ∧ Aside0 (z ≤ fit.length ∧ fit.length - z ≤ gg) ∧ Aside0 (spec_BestTest.p_cnt bits (fit.drop z) n0 = spec_BestTest.p_cnt bits fit 0) ∧ Aside0 (Below w6.heap.size w6 wr))
                case atStart => exact ⟨0, 0, rfl, rfl, ⟨by omega, by omega⟩, ⟨by rw [List.drop_zero]⟩, HB2⟩
                case round =>
                  clear HB2
                  obtain ⟨z, n0, rfl, rfl, HZ3, HRUN, HB⟩ := hrel
                  by_cases hz : z < fit.length
                  · have hC := Kd.C_below (Kd.R_reads' HF.out).2.2 HB.out
                    have hcell := Kd.foot_int hC (z : Int) (by omega) (by omega)
                    rw [Int.toNat_natCast, add_at, Nat.zero_add] at hcell
                    have hcellb : wr.cell? ((⟨g3, 0, none⟩ : Addr).add z) = some (.int .i64 (rd fit (z : Int))) := by rw [add_at, Nat.zero_add]; exact hcell
                    have hrun := HRUN.out
                    have erd : rd fit (z : Int) = fit[z] := by unfold rd; simp [hz]
                    rw [List.drop_eq_getElem_cons hz, ← erd] at hrun
                    replace hrun : spec_BestTest.p_cnt bits (fit.drop (z + 1)) (if Go.bits .and .i64 bits (rd fit (z : Int)) = 0 then n0 else wrap64 (n0 + 1)) = spec_BestTest.p_cnt bits fit 0 := hrun
                    have HRUN2 := Aside0.mk hrun
                    have HZZ := Aside0.mk hz
                    have z1 : decide ((z : Int) < (fit.length : Int)) = true := decide_eq_true (by omega)
                    have z2 : ((z : Int) < (fit.length : Int)) = True := eq_true (by omega)
                    have z3 : (z < fit.length) = True := eq_true hz
                    have zw : wrap64 ((z : Int) + 1) = (z : Int) + 1 := by have := (Kd.R_reads' HF.out).2.2.2.1; unfold wrap64; omega
                    clear hC hrun erd hz HRUN
                    by_cases hb : Go.bits .and .i64 bits (rd fit (z : Int)) = 0
                    · have hr := HRUN2.out
                      rw [if_pos hb] at hr
                      have HR3 := Aside0.mk hr
                      have b1 : (Go.bits .and .i64 bits (rd fit (z : Int)) == 0) = true := beq_iff_eq.mpr hb
                      have b2 : (Go.bits .and .i64 bits (rd fit (z : Int)) != 0) = false := by rw [bne, b1]; rfl
                      clear hr HRUN2
                      go_wp2
                      go_roundg (fit.length - (z + 1))
                      case measure => have := HZ3.out; have := HZZ.out; omega
                      case rel => exact ⟨z + 1, n0, rfl, by first | rfl | (simp; done) | (rw [zw]; rfl) | (rw [zw]), ⟨by have := HZZ.out; omega, by omega⟩, HR3, HB⟩
                    · have hr := HRUN2.out
                      rw [if_neg hb] at hr
                      have HR3 := Aside0.mk hr
                      have b1 : (Go.bits .and .i64 bits (rd fit (z : Int)) == 0) = false := beq_eq_false_iff_ne.mpr hb
                      have b2 : (Go.bits .and .i64 bits (rd fit (z : Int)) != 0) = true := by rw [bne, b1]; rfl
                      clear hr HRUN2
                      go_wp2
                      go_roundg (fit.length - (z + 1))
                      case measure => have := HZ3.out; have := HZZ.out; omega
                      case rel => exact ⟨z + 1, wrap64 (n0 + 1), rfl, by first | rfl | (simp; done) | (rw [zw]; rfl) | (rw [zw]), ⟨by have := HZZ.out; omega, by omega⟩, HR3, HB⟩
                  · have z1 : decide ((z : Int) < (fit.length : Int)) = false := decide_eq_false (by omega)
                    have z2 : ((z : Int) < (fit.length : Int)) = False := eq_false (by omega)
                    have z3 : (z < fit.length) = False := eq_false hz
                    have hrun := HRUN.out
                    rw [List.drop_eq_nil_of_le (by omega)] at hrun
                    unfold spec_BestTest.p_cnt at hrun
                    obtain rfl : n0 = spec_BestTest.p_cnt bits fit 0 := by rw [hrun]; cases fit <;> rfl
                    clear hrun HRUN hz
                    go_wp2_with fail
                    refine (spec_l1Most.calls _ _ n _ HNN.out).mono ?_
                    rintro e w9 ⟨rfl, ⟨nd2, rfl⟩⟩
                    have HB3 := Aside0.mk (pw_below_drewN HB.out nd2)
                    clear HB
                    generalize wr.drewN nd2 = w10 at HB3 ⊢
                    by_cases hl : n < least
                    · have hr := HREST.out
                      rw [if_pos hl] at hr
                      have HR4 := Aside0.mk hr
                      have l1 : decide (n < least) = true := decide_eq_true hl
                      have l2 : (n < least) = True := eq_true hl
                      clear hr HREST hl
                      go_wp2
                      go_roundg (all.length - (y + 1))
                      case measure => have := HY.out; have := HYY.out; omega
                      case rel => exact ⟨y + 1, b, n, rfl, by first | rfl | (simp; done) | (rw [yw]; rfl) | (rw [yw]), ⟨by have := HYY.out; omega, by omega⟩, HR4, HV5, HB3⟩
                    · have hr := HREST.out
                      rw [if_neg hl] at hr
                      have HR4 := Aside0.mk hr
                      have l1 : decide (n < least) = false := decide_eq_false hl
                      have l2 : (n < least) = False := eq_false hl
                      clear hr HREST hl
                      go_wp2
                      go_roundg (all.length - (y + 1))
                      case measure => have := HY.out; have := HYY.out; omega
                      case rel => exact ⟨y + 1, best, least, rfl, by first | rfl | (simp; done) | (rw [yw]; rfl) | (rw [yw]), ⟨by have := HYY.out; omega, by omega⟩, HR4, HV, HB3⟩
              · have hrun := HRUN.out
                rw [List.drop_eq_nil_of_le (by omega)] at hrun
                unfold spec_BestTest.runbest at hrun
                obtain ⟨rfl, rfl⟩ := Prod.mk.inj (Option.some.inj hrun)
                have y1 : decide ((y : Int) < ((all.length - 1 : Nat) : Int)) = false := decide_eq_false (by omega)
                have y2 : ((y : Int) < ((all.length - 1 : Nat) : Int)) = False := eq_false (by omega)
                have y3 : (y < all.length - 1) = False := eq_false (by omega)
                clear hrun HRUN hy
                go_wp2
                go_ret3
                exact ⟨_, rfl, Kd.V_below HV.out HB.out, below_step B6.out HB.out⟩


/-! ### impl_within: function 46 -/
def impl_within.f (a0 : Int) (a1 : Int) (a2 : Int) : Option (Bool) := if a1 ≤ a0 then (some (decide (a0 ≤ a2))) else (some false)
set_option maxHeartbeats 8000000 in
set_option maxRecDepth 100000 in
theorem impl_within.calls (a0 : Int) (a1 : Int) (a2 : Int) (r : Bool) (w : World) (h : impl_within.f a0 a1 a2 = some r) :
    Calls Tryd.prog 46 #[.int .i64 a0, .int .i64 a1, .int .i64 a2] w fun e w' => e = .returned (.bool r) ∧ Drawn0 w w' := by
  have H : (if a1 ≤ a0 then (some (decide (a0 ≤ a2))) else (some false)) = some r := h
  clear h
  by_cases c4 : a1 ≤ a0
  · rw [if_pos c4] at H
    have c4b0 : decide (a1 ≤ a0) = true := decide_eq_true c4
    clear c4
    obtain rfl := Option.some.inj H
    go_enter Tryd.func46, Tryd.ntmps46
    go_wp2
    go_ret
    exact ⟨by first | rfl | (simp; done) | (simp [*]; done), by repeat (first | exact Drawn0.refl _ | apply Drawn0.step)⟩
  · rw [if_neg c4] at H
    have c4b0 : decide (a1 ≤ a0) = false := decide_eq_false c4
    clear c4
    obtain rfl := Option.some.inj H
    go_enter Tryd.func46, Tryd.ntmps46
    go_wp2
    go_ret
    exact ⟨by first | rfl | (simp; done) | (simp [*]; done), by repeat (first | exact Drawn0.refl _ | apply Drawn0.step)⟩

/-! ### impl_areTested: function 56 -/
def impl_areTested.f (a0 : Int) : Option (Bool) := (impl_within.f a0 1 10).bind fun t170 => (some t170)
set_option maxHeartbeats 8000000 in
set_option maxRecDepth 100000 in
theorem impl_areTested.calls (a0 : Int) (r : Bool) (w : World) (h : impl_areTested.f a0 = some r) :
    Calls Tryd.prog 56 #[.int .i64 a0] w fun e w' => e = .returned (.bool r) ∧ Drawn0 w w' := by
  have H : ((impl_within.f a0 1 10).bind fun t170 => (some t170)) = some r := h
  clear h
  replace H := Option.bind_eq_some_iff.mp H
  obtain ⟨t170, A20, H⟩ := H
  replace H : (some t170) = some r := H
  have A2 := Aside0.mk A20
  clear A20
  obtain rfl := Option.some.inj H
  go_enter Tryd.func56, Tryd.ntmps56
  go_wp2_with (first | ((with_reducible refine gate_callee (f := 46) rfl ?_); refine goesL_ (some 4) rfl rfl Tryd.func46 (by kernel_rfl) rfl #[.int .i64 a0, .int .i64 1, .int .i64 10] rfl (by (try simp only [List.map_toArray, List.map_cons, List.map_nil]); first | done | rfl | (simp only [List.length_drop, List.length_take]; rfl) | (simp; done) | (refine congrArg Value.bool ?_; simp; done) | (refine congrArg (fun z_ => #[Value.bool z_]) ?_; simp; done)) ?_; (with_reducible refine (impl_within.calls a0 1 10 t170 _ A2.out).mono ?_); rintro e w' ⟨rfl, ⟨nd, rfl⟩⟩; refine ⟨_, rfl, ?_⟩))
  go_ret
  exact ⟨by first | rfl | (simp; done) | (simp [*]; done), by repeat (first | exact Drawn0.refl _ | apply Drawn0.step)⟩

-- NOT PRINTED: function 72 (slices_IndexFunc_int_int_72)

-- NOT PRINTED: function 57 (slices_ContainsFunc_int_int_57)

-- NOT PRINTED: function 99 (slices_IndexFunc_int_int_99)

-- NOT PRINTED: function 89 (slices_ContainsFunc_int_int_89)

/-! ### impl_areWithin_1: function 90 -/
/-- Is a number between two? -/
def impl_areWithin_1.in_ (lo hi x : Int) : Bool := decide (lo ≤ x) && decide (x ≤ hi)
theorem impl_areWithin_1.within (lo hi x : Int) (w : World) : Calls Tryd.prog 46 #[.int .i64 x, .int .i64 lo, .int .i64 hi] w fun e w' => e = .returned (.bool (impl_areWithin_1.in_ lo hi x)) ∧ Drawn0 w w' := by
  refine (impl_within.calls x lo hi (impl_areWithin_1.in_ lo hi x) w ?_).mono (fun _ _ h => h)
  unfold impl_within.f impl_areWithin_1.in_
  by_cases h : lo ≤ x
  · rw [if_pos h]; simp [h]
  · rw [if_neg h]; simp [h]
theorem impl_areWithin_1.clos (B1 B2 : Nat) (lo hi : Int) (x : Int) (w : World) (h1 : w.cell? ⟨B1, 0, none⟩ = some (.int .i64 lo)) (h2 : w.cell? ⟨B2, 0, none⟩ = some (.int .i64 hi)) :
    Calls Tryd.prog 90 #[.int .i64 x, .pointer (some ⟨B1, 0, none⟩), .pointer (some ⟨B2, 0, none⟩)] w fun e w' => e = .returned (.bool (!impl_areWithin_1.in_ lo hi x)) ∧ Below w.heap.size w w' := by
  have hw := fun (W : World) => impl_areWithin_1.within lo hi x W
  generalize impl_areWithin_1.in_ lo hi x = q at hw ⊢
  go_enter Tryd.func90, Tryd.ntmps90
  go_wp2_with (go_at_call 46; refine (hw _).mono ?_; rintro e w' ⟨rfl, ⟨nd, rfl⟩⟩)
  go_ret
  exact ⟨by first | rfl | simp, by repeat (first | exact Below.refl _ _ | apply below_alloc | apply pw_below_drewN)⟩
theorem impl_areWithin_1.ret_int {k : IntKind} {a b : Int} (h : a = b) : Ending.returned (.int k a) = .returned (.int k b) := by rw [h]
open Go.Proofs.YtbghdbpaihkcjaaDoorW.Help in
set_option maxHeartbeats 2000000 in
theorem impl_areWithin_1.indexFunc (g : Nat) (lb : Array Value) (p : Int → Bool) (A1 : Option Addr) (c1 : Nat) (l1 : List Int) (w : World) (hr : Kd.C (Kd.int .i64) w A1 l1.length l1)
    (eg : ∀ args w, (callFunc g args).run Tryd.prog w = .ok (.enter g args) w)
    (hp : ∀ (W : World) (x : Int), Below w.heap.size w W → Calls Tryd.prog g (#[.int .i64 x] ++ lb) W fun e W' => e = .returned (.bool (p x)) ∧ Below w.heap.size w W') :
    Calls Tryd.prog 99 #[.slice A1 l1.length c1, .func (.func g) #[] lb] w fun e w' => e = .returned (.int .i64 (fi p l1)) ∧ Below w.heap.size w w' := by
  have hlen : l1.length ≤ 9223372036854775807 := hr.2.1
  have HR := Aside0.mk hr
  have HP := Aside0.mk hp
  clear hr hp
  go_enter Tryd.func99, Tryd.ntmps99
  go_wp2
  go_loopg [5, 8] l1.length (fun gg _ s8 wr => ∃ x : Int, s8 = .int .i64 x ∧ Aside0 (0 ≤ x ∧ x ≤ (l1.length : Int) ∧ l1.length - x.toNat ≤ gg) ∧ Aside0 (Below w.heap.size w wr) ∧ Aside0 (∀ j, j < x.toNat → p (l1.getD j (0 : Int)) = false))
  case atStart => exact ⟨0, rfl, ⟨by omega, by omega, by simp⟩, ⟨Below.refl _ w⟩, ⟨fun j hj => absurd hj (Nat.not_lt_zero _)⟩⟩
  case round =>
    obtain ⟨x, rfl, HX, BW, A⟩ := hrel
    by_cases hlt : x < (l1.length : Int)
    · have p0 : 0 ≤ x := HX.out.1
      obtain ⟨ad, e, hx0⟩ := Kd.at_int HR.out x p0 hlt
      subst e
      replace hx0 := (BW.out.cell (World.block_lt_of_cell? w _ hx0)).trans hx0
      have hcall := HP.out wr (rd l1 x) BW.out
      have B : Aside0 (l1.getD x.toNat (0 : Int) = rd l1 x) := ⟨rfl⟩
      have HL := Aside0.mk hlt
      have d1 : decide (x < (l1.length : Int)) = true := decide_eq_true hlt
      have d0 : decide (0 ≤ x) = true := decide_eq_true p0
      replace p0 := eq_true p0
      replace hlt := eq_true hlt
      clear HP HR
      generalize rd l1 x = y at hcall hx0 B
      cases hq : p y with
      | true =>
        rw [hq] at hcall
        have HQ := Aside0.mk hq
        clear hq
        go_wp2_with fail
        refine hcall.mono ?_
        rintro e w' ⟨rfl, hb'⟩
        go_wp2
        go_ret
        exact ⟨impl_areWithin_1.ret_int (by rw [fi_hit (0 : Int) (k := x.toNat) (by have := HL.out; have := HX.out; omega) (by rw [B.out]; exact HQ.out) A.out, Int.toNat_of_nonneg HX.out.1]), hb'⟩
      | false =>
        rw [hq] at hcall
        have HQ := Aside0.mk hq
        clear hq
        go_wp2_with fail
        refine hcall.mono ?_
        rintro e w' ⟨rfl, hb'⟩
        go_wp2
        go_roundg (l1.length - (x.toNat + 1))
        case measure => have := HL.out; have := HX.out; omega
        case rel =>
          have h1 := HL.out
          have h2 := HX.out
          refine ⟨x + 1, by first | rfl | (rw [show wrap64 (x + 1) = x + 1 by unfold wrap64; omega]), ⟨by omega, by omega, by omega⟩, ⟨hb'⟩, ⟨fun j hj => ?_⟩⟩
          by_cases e : j = x.toNat
          · rw [e, B.out]; exact HQ.out
          · exact A.out j (by omega)
    · have HL := Aside0.mk hlt
      have d1 : decide (x < (l1.length : Int)) = false := decide_eq_false hlt
      clear hlt
      go_wp2
      go_ret
      exact ⟨impl_areWithin_1.ret_int (by rw [fi_miss (0 : Int) (fun j hj => A.out j (by have := HL.out; have := HX.out; omega))]), BW.out⟩
open Go.Proofs.YtbghdbpaihkcjaaDoorW.Help in
theorem impl_areWithin_1.containsFunc (g : Nat) (lb : Array Value) (p : Int → Bool) (A1 : Option Addr) (c1 : Nat) (l1 : List Int) (w : World) (hr : Kd.C (Kd.int .i64) w A1 l1.length l1)
    (eg : ∀ args w, (callFunc g args).run Tryd.prog w = .ok (.enter g args) w)
    (hp : ∀ (W : World) (x : Int), Below w.heap.size w W → Calls Tryd.prog g (#[.int .i64 x] ++ lb) W fun e W' => e = .returned (.bool (p x)) ∧ Below w.heap.size w W') :
    Calls Tryd.prog 89 #[.slice A1 l1.length c1, .func (.func g) #[] lb] w fun e w' => e = .returned (.bool (l1.any p)) ∧ Below w.heap.size w w' := by
  have hcon := impl_areWithin_1.indexFunc g lb p A1 c1 l1 w hr eg hp
  have e1 : Aside0 (decide (fi p l1 ≥ 0) = l1.any p) := ⟨fi_ge p l1⟩
  generalize fi p l1 = r at hcon e1
  clear hr eg hp
  go_enter Tryd.func89, Tryd.ntmps89
  go_wp2_with (go_at_call 99; refine hcon.mono ?_; rintro e w' ⟨rfl, hb'⟩)
  go_ret
  exact ⟨by rw [← e1.out]; rfl, hb'⟩
def impl_areWithin_1.f (l0 : List Int) (lo hi : Int) : Option Bool := some (l0.any fun x => !impl_areWithin_1.in_ lo hi x)
theorem impl_areWithin_1.calls (A0 : Option Addr) (c0 : Nat) (l0 : List Int) (B1 : Nat) (lo : Int) (B2 : Nat) (hi : Int) (r : Bool) (w : World) (hr0 : Kd.C (Kd.int .i64) w A0 l0.length l0) (hc0 : l0.length ≤ c0) (hB1 : w.heap[B1]? = some (.cells #[.int .i64 lo] 3 (0, 0))) (hB2 : w.heap[B2]? = some (.cells #[.int .i64 hi] 3 (0, 0))) (h : impl_areWithin_1.f l0 lo hi = some r) :
    Calls Tryd.prog 89 #[.slice A0 l0.length c0, .func (.func 90) #[] #[.pointer (some ⟨B1, 0, none⟩), .pointer (some ⟨B2, 0, none⟩)]] w fun e w' => e = .returned (.bool r) ∧ Below w.heap.size w w' := by
  have eg : ∀ args w, (callFunc 90 args).run Tryd.prog w = .ok (.enter 90 args) w := Go.Proofs.enters_of Tryd.func90 (by kernel_rfl) rfl
  obtain rfl := Option.some.inj h
  have h1 : w.cell? ⟨B1, 0, none⟩ = some (.int .i64 lo) := (blk_cell hB1 0).trans rfl
  have h2 : w.cell? ⟨B2, 0, none⟩ = some (.int .i64 hi) := (blk_cell hB2 0).trans rfl
  have l1 : B1 < w.heap.size := World.block_lt_of_cell? w _ h1
  have l2 : B2 < w.heap.size := World.block_lt_of_cell? w _ h2
  exact impl_areWithin_1.containsFunc _ _ _ A0 c0 l0 w hr0 eg (fun W' x hb' => (impl_areWithin_1.clos B1 B2 lo hi x W' ((hb'.cell (p := ⟨B1, 0, none⟩) l1).trans h1) ((hb'.cell (p := ⟨B2, 0, none⟩) l2).trans h2)).mono fun e w2 ⟨he, hb2⟩ => ⟨he, below_step hb' hb2⟩)


/-! ### impl_areWithin: function 73 -/
def impl_areWithin.f (l0 : List Int) (a1 : Int) (a2 : Int) : Option (Bool) := (impl_areWithin_1.f l0 a1 a2).bind fun t173 => (some (!t173))
set_option maxHeartbeats 8000000 in
set_option maxRecDepth 100000 in
theorem impl_areWithin.calls (A0 : Option Addr) (c0 : Nat) (l0 : List Int) (a1 : Int) (a2 : Int) (r : Bool) (w : World) (hr0 : Kd.C (Kd.int .i64) w A0 l0.length l0) (hc0 : l0.length ≤ c0) (h : impl_areWithin.f l0 a1 a2 = some r) :
    Calls Tryd.prog 73 #[.slice A0 l0.length c0, .int .i64 a1, .int .i64 a2] w fun e w' => e = .returned (.bool r) ∧ Below w.heap.size w w' := by
  have HR0 := Aside0.mk hr0
  have HC0 := Aside0.mk hc0
  clear hr0 hc0
  have HB := Aside0.mk (Below.refl w.heap.size w)
  have H : ((impl_areWithin_1.f l0 a1 a2).bind fun t173 => (some (!t173))) = some r := h
  clear h
  replace H := Option.bind_eq_some_iff.mp H
  obtain ⟨t173, A40, H⟩ := H
  replace H : (some (!t173)) = some r := H
  have A4 := Aside0.mk A40
  clear A40
  obtain rfl := Option.some.inj H
  go_enter Tryd.func73, Tryd.ntmps73
  go_wp2_with (first | ((with_reducible refine gate_dst (N := 4) rfl ?_); refine box_event ?hg (N := 4) ?hd (cs := #[.int .i64 a1]) (t := 3) ?hr ?_; (case hd => rfl); (case hg => rfl); (case hr => first | (go_simp; done) | (go_simp; rfl)); intro gb171 hg w5 hbox hb; have n0_ := Aside0.mk (below_step (by repeat (first | (with_reducible first | exact HB.out | apply below_alloc | apply pw_below_drewN | apply below_drew1) | exact HB.out)) hb); have n1_ := Aside0.mk (hbox); have n2_ := Aside0.mk ((by rw [hg]; exact (below_size (by repeat (first | (with_reducible first | exact HB.out | apply below_alloc | apply pw_below_drewN | apply below_drew1) | exact HB.out))) : w.heap.size ≤ gb171)); have n3_ := Aside0.mk ((by rw [hg]; exact (below_size (by repeat (first | (with_reducible first | exact HB.out | apply below_alloc | apply pw_below_drewN | apply below_drew1) | exact HB.out))) : w.heap.size ≤ gb171)); clear HB; have HB := n0_; have BK171 := n1_; have GW171 := n2_; have GE171 := n3_; clear n0_ n1_ n2_ n3_; clear hb hbox hg) | ((with_reducible refine gate_dst (N := 5) rfl ?_); refine box_event ?hg (N := 5) ?hd (cs := #[.int .i64 a2]) (t := 3) ?hr ?_; (case hd => rfl); (case hg => rfl); (case hr => first | (go_simp; done) | (go_simp; rfl)); intro gb172 hg w6 hbox hb; have n0_ := Aside0.mk (blk_below (g := gb171) (o := .cells #[.int .i64 a1] 3 (0, 0)) (by (with_reducible repeat (first | refine blk_drewN ?_ _ | refine blk_drew ?_ | refine blk_alloc ?_ _)); exact BK171.out) hb); have n1_ := Aside0.mk (below_step (by repeat (first | (with_reducible first | exact HB.out | apply below_alloc | apply pw_below_drewN | apply below_drew1 | refine below_set ?_ GE171.out) | exact HB.out)) hb); have n2_ := Aside0.mk (hbox); have n3_ := Aside0.mk ((by rw [hg]; exact (below_size (by repeat (first | (with_reducible first | exact HB.out | apply below_alloc | apply pw_below_drewN | apply below_drew1 | refine below_set ?_ GE171.out) | exact HB.out))) : w.heap.size ≤ gb172)); have n4_ := Aside0.mk ((by rw [hg]; exact (below_size (by repeat (first | (with_reducible first | exact HB.out | apply below_alloc | apply pw_below_drewN | apply below_drew1 | refine below_set ?_ GE171.out) | exact HB.out))) : w.heap.size ≤ gb172)); have n5_ := Aside0.mk ((by rw [hg]; exact Nat.ne_of_lt (blk_lt (g := gb171) (o := .cells #[.int .i64 a1] 3 (0, 0)) (by (with_reducible repeat (first | refine blk_drewN ?_ _ | refine blk_drew ?_ | refine blk_alloc ?_ _)); exact BK171.out)) : gb171 ≠ gb172)); have n6_ := Aside0.mk ((by rw [hg]; exact Nat.ne_of_gt (blk_lt (g := gb171) (o := .cells #[.int .i64 a1] 3 (0, 0)) (by (with_reducible repeat (first | refine blk_drewN ?_ _ | refine blk_drew ?_ | refine blk_alloc ?_ _)); exact BK171.out)) : gb172 ≠ gb171)); clear BK171; clear HB; have BK171 := n0_; have HB := n1_; have BK172 := n2_; have GW172 := n3_; have GE172 := n4_; have NB171_172 := n5_; have NB172_171 := n6_; clear n0_ n1_ n2_ n3_ n4_ n5_ n6_; clear hb hbox hg) | ((with_reducible refine gate_callee (f := 89) rfl ?_); refine goesL_ (some 9) rfl rfl Tryd.func89 (by kernel_rfl) rfl #[.slice A0 l0.length c0, .func (.func 90) #[] #[.pointer (some ⟨gb171, 0, none⟩), .pointer (some ⟨gb172, 0, none⟩)]] rfl (by (try simp only [List.map_toArray, List.map_cons, List.map_nil]); first | done | rfl | (simp only [List.length_drop, List.length_take]; rfl) | (simp; done) | (refine congrArg Value.bool ?_; simp; done) | (refine congrArg (fun z_ => #[Value.bool z_]) ?_; simp; done)) ?_; (with_reducible refine (impl_areWithin_1.calls _ _ l0 gb171 a1 gb172 a2  t173 _ ?side1 ?side2 ?side3 ?side4 A4.out).mono ?_); (case side1 => repeat (first | exact (Kd.C_below HR0.out HB.out) | (with_reducible refine Kd.C_alloc ?_ _) | (with_reducible refine Kd.C_drewN ?_ _) | (with_reducible refine Kd.C_drew ?_))); (case side2 => exact HC0.out); (case side3 => exact (by (with_reducible repeat (first | refine blk_drewN ?_ _ | refine blk_drew ?_ | refine blk_alloc ?_ _)); exact BK171.out)); (case side4 => exact (by (with_reducible repeat (first | refine blk_drewN ?_ _ | refine blk_drew ?_ | refine blk_alloc ?_ _)); exact BK172.out)); rintro e w7 ⟨rfl, hb⟩; refine ⟨_, rfl, ?_⟩; have n0_ := Aside0.mk (blk_below (g := gb171) (o := .cells #[.int .i64 a1] 3 (0, 0)) (by (with_reducible repeat (first | refine blk_drewN ?_ _ | refine blk_drew ?_ | refine blk_alloc ?_ _)); exact BK171.out) hb); have n1_ := Aside0.mk (blk_below (g := gb172) (o := .cells #[.int .i64 a2] 3 (0, 0)) (by (with_reducible repeat (first | refine blk_drewN ?_ _ | refine blk_drew ?_ | refine blk_alloc ?_ _)); exact BK172.out) hb); have n2_ := Aside0.mk (below_step (by repeat (first | (with_reducible first | exact HB.out | apply below_alloc | apply pw_below_drewN | apply below_drew1 | refine below_set ?_ GE171.out | refine below_set ?_ GE172.out) | exact HB.out)) hb); clear BK171; clear BK172; clear HB; have BK171 := n0_; have BK172 := n1_; have HB := n2_; clear n0_ n1_ n2_; (try clear hb); (try clear hb2); (try clear hk); (try clear hi)))
  go_ret
  exact ⟨by first | rfl | (simp [errW_none, errW_some] <;> rfl) | (simp [*, errW_none, errW_some] <;> rfl), by repeat (first | (with_reducible first | exact HB.out | apply below_alloc | apply pw_below_drewN | apply below_drew1 | refine below_set ?_ GE171.out | refine below_set ?_ GE172.out) | exact HB.out)⟩

/-! ### impl_isRising: function 59 -/
def impl_isRising.l0 : Nat → Int → List Int → Int → Option (Bool)
  | 0, _, _, _ => none
  | k + 1, x0, x1, x5 => if x5 < (x1.length : Int) then (if 0 ≤ x5 then (if 0 ≤ (wrap64 (x5 - 1)) then (if (wrap64 (x5 - 1)) < (x1.length : Int) then (if (rd x1 x5) ≤ (rd x1 (wrap64 (x5 - 1))) then (some false) else (impl_isRising.l0 k x0 x1 (wrap64 (x5 + 1)))) else (none)) else (none)) else (none)) else ((impl_areWithin.f x1 0 (wrap64 (x0 - 1))).bind fun t176 => (some t176))
def impl_isRising.f (k : Nat) (a0 : Int) (l1 : List Int) : Option (Bool) := impl_isRising.l0 k a0 l1 1
theorem impl_isRising.mono_l : ∀ k, (∀ y0 y1 y2, LeO (impl_isRising.l0 k y0 y1 y2) (impl_isRising.l0 (k + 1) y0 y1 y2))
  | 0 => fun _ _ _ r h => by simp [impl_isRising.l0] at h
  | k + 1 => by
    have ih0 := impl_isRising.mono_l k
    · intro y0 y1 y2
      unfold impl_isRising.l0
      repeat' first
      | (with_reducible exact ih0 _ _ _)
      | (with_reducible exact LeO.refl _)
      | (with_reducible exact LeO.none _)
      | (with_reducible refine LeO.ite ?_ ?_)
      | (with_reducible refine LeO.bind ?_ (fun _ => ?_))
      | exact ih0 _ _ _
      | exact LeO.none _
      | refine LeO.ite ?_ ?_
      | refine LeO.bind ?_ (fun _ => ?_)
theorem impl_isRising.mono : ∀ a0 a1 k, LeO (impl_isRising.f k a0 a1) (impl_isRising.f (k + 1) a0 a1) := by
  intro a0 a1 k
  have ih0 := impl_isRising.mono_l k
  unfold impl_isRising.f
  repeat' first
      | (with_reducible exact ih0 _ _ _)
      | (with_reducible exact LeO.refl _)
      | (with_reducible exact LeO.none _)
      | (with_reducible refine LeO.ite ?_ ?_)
      | (with_reducible refine LeO.bind ?_ (fun _ => ?_))
      | exact ih0 _ _ _
      | exact LeO.none _
      | refine LeO.ite ?_ ?_
      | refine LeO.bind ?_ (fun _ => ?_)
set_option maxHeartbeats 8000000 in
set_option maxRecDepth 100000 in
theorem impl_isRising.calls (k : Nat) (a0 : Int) (A1 : Option Addr) (c1 : Nat) (l1 : List Int) (r : Bool) (w : World) (hr1 : Kd.C (Kd.int .i64) w A1 l1.length l1) (hc1 : l1.length ≤ c1) (h : impl_isRising.f k a0 l1 = some r) :
    Calls Tryd.prog 59 #[.int .i64 a0, .slice A1 l1.length c1] w fun e w' => e = .returned (.bool r) ∧ Below w.heap.size w w' := by
  have HR1 := Aside0.mk hr1
  have HC1 := Aside0.mk hc1
  clear hr1 hc1
  have HB := Aside0.mk (Below.refl w.heap.size w)
  have H : (impl_isRising.l0 k a0 l1 1) = some r := h
  clear h
  have H' := Aside0.mk H
  clear H
  go_enter Tryd.func59, Tryd.ntmps59
  go_wp2
  repeat (go_quiet (fail); try go_wp2)
  go_loopg [5] k (fun kq v5 w' => ∃ (x5_1 : Int), v5 = .int .i64 x5_1 ∧ Aside0 (impl_isRising.l0 kq a0 l1 x5_1 = some r) ∧ Aside0 (kq ≤ k) ∧ Aside0 (Below w.heap.size w w'))
  case atStart => exact ⟨(1), (by first | rfl | (simp; done) | (simp [*]; done)), H', ⟨Nat.le_refl _⟩, ⟨by repeat (first | (with_reducible first | exact HB.out | apply below_alloc | apply pw_below_drewN | apply below_drew1) | exact HB.out)⟩⟩
  case round =>
    clear H'
    try clear c1
    try clear p2
    obtain ⟨x5_1, rfl, HA, HK1, HB⟩ := hrel
    cases gk with
    | zero => exact absurd HA.out (by simp [impl_isRising.l0])
    | succ k1 =>
      have H := HA.out
      clear HA
      simp only [impl_isRising.l0] at H
      by_cases c3 : x5_1 < (l1.length : Int)
      · rw [if_pos c3] at H
        have c3b0 : decide (x5_1 < (l1.length : Int)) = true := decide_eq_true c3
        clear c3
        by_cases c4 : 0 ≤ x5_1
        · rw [if_pos c4] at H
          have c4b0 : decide (0 ≤ x5_1) = true := decide_eq_true c4
          clear c4
          obtain ⟨ji5, hji5⟩ : ∃ j_ : Int, (wrap64 (x5_1 - 1)) = j_ := ⟨_, rfl⟩
          replace H : (if 0 ≤ (ji5) then (if (ji5) < (l1.length : Int) then (if (rd l1 x5_1) ≤ (rd l1 (ji5)) then (some false) else (impl_isRising.l0 k1 a0 l1 (wrap64 (x5_1 + 1)))) else (none)) else (none)) = some r := by first | (rw [hji5] at H; exact H) | (simp only [hji5] at H ⊢; exact H)
          have hji5w : (IntKind.i64.wrap (x5_1 - 1)) = ji5 := (i64_w _).trans hji5
          by_cases c6 : 0 ≤ (ji5)
          · rw [if_pos c6] at H
            have c6b0 : decide (0 ≤ (ji5)) = true := decide_eq_true c6
            clear c6
            by_cases c7 : (ji5) < (l1.length : Int)
            · rw [if_pos c7] at H
              have c7b0 : decide ((ji5) < (l1.length : Int)) = true := decide_eq_true c7
              clear c7
              by_cases c8 : (rd l1 x5_1) ≤ (rd l1 (ji5))
              · rw [if_pos c8] at H
                have c8b0 : decide ((rd l1 x5_1) ≤ (rd l1 (ji5))) = true := decide_eq_true c8
                clear c8
                obtain rfl := Option.some.inj H
                have p174 : 0 ≤ (x5_1 : Int) := of_decide_eq_true (by first | (with_reducible assumption) | assumption)
                have q174 : x5_1 < (l1.length : Int) := of_decide_eq_true (by first | (with_reducible assumption) | assumption)
                obtain ⟨ad174, e174, hx174_0⟩ := Kd.at_int HR1.out x5_1 p174 q174
                cases e174
                replace hx174_0 := (HB.out.cell (World.block_lt_of_cell? w _ hx174_0)).trans hx174_0
                replace p174 := eq_true p174
                replace q174 := eq_true q174
                have p175 : 0 ≤ ((ji5) : Int) := of_decide_eq_true (by first | (with_reducible assumption) | assumption)
                have q175 : (ji5) < (l1.length : Int) := of_decide_eq_true (by first | (with_reducible assumption) | assumption)
                obtain ⟨ad175, e175, hx175_0⟩ := Kd.at_int HR1.out (ji5) p175 q175
                obtain rfl : ad174 = ad175 := (by injection e175)
                replace hx175_0 := (HB.out.cell (World.block_lt_of_cell? w _ hx175_0)).trans hx175_0
                replace p175 := eq_true p175
                replace q175 := eq_true q175
                go_wp2
                repeat (go_quiet (fail); try go_wp2)
                go_ret
                exact ⟨by first | rfl | (simp [errW_none, errW_some] <;> rfl) | (simp only [← hji5]; first | rfl | (simp [errW_none, errW_some] <;> rfl)) | (simp [*, errW_none, errW_some] <;> rfl), by repeat (first | (with_reducible first | exact HB.out | apply below_alloc | apply pw_below_drewN | apply below_drew1) | exact HB.out)⟩
              · rw [if_neg c8] at H
                have c8b0 : decide ((rd l1 x5_1) ≤ (rd l1 (ji5))) = false := decide_eq_false c8
                clear c8
                have H' := Aside0.mk H
                clear H
                have p174 : 0 ≤ (x5_1 : Int) := of_decide_eq_true (by first | (with_reducible assumption) | assumption)
                have q174 : x5_1 < (l1.length : Int) := of_decide_eq_true (by first | (with_reducible assumption) | assumption)
                obtain ⟨ad174, e174, hx174_0⟩ := Kd.at_int HR1.out x5_1 p174 q174
                cases e174
                replace hx174_0 := (HB.out.cell (World.block_lt_of_cell? w _ hx174_0)).trans hx174_0
                replace p174 := eq_true p174
                replace q174 := eq_true q174
                have p175 : 0 ≤ ((ji5) : Int) := of_decide_eq_true (by first | (with_reducible assumption) | assumption)
                have q175 : (ji5) < (l1.length : Int) := of_decide_eq_true (by first | (with_reducible assumption) | assumption)
                obtain ⟨ad175, e175, hx175_0⟩ := Kd.at_int HR1.out (ji5) p175 q175
                obtain rfl : ad174 = ad175 := (by injection e175)
                replace hx175_0 := (HB.out.cell (World.block_lt_of_cell? w _ hx175_0)).trans hx175_0
                replace p175 := eq_true p175
                replace q175 := eq_true q175
                go_wp2
                repeat (go_quiet (fail); try go_wp2)
                go_roundg k1
                case measure => have := HK1.out; omega
                case rel => exact ⟨(wrap64 (x5_1 + 1)), (by first | rfl | (simp; done) | (simp [*]; done)), H', ⟨by have := HK1.out; omega⟩, ⟨by repeat (first | (with_reducible first | exact HB.out | apply below_alloc | apply pw_below_drewN | apply below_drew1) | exact HB.out)⟩⟩
            · rw [if_neg c7] at H
              exact absurd H (by simp)
          · rw [if_neg c6] at H
            exact absurd H (by simp)
        · rw [if_neg c4] at H
          exact absurd H (by simp)
      · rw [if_neg c3] at H
        have c3b0 : decide (x5_1 < (l1.length : Int)) = false := decide_eq_false c3
        clear c3
        replace H := Option.bind_eq_some_iff.mp H
        obtain ⟨t176, A90, H⟩ := H
        replace H : (some t176) = some r := H
        have A9 := Aside0.mk A90
        clear A90
        obtain rfl := Option.some.inj H
        go_wp2_with (first | (go_at_call 73; (with_reducible refine (impl_areWithin.calls _ _ l1 0 (wrap64 (a0 - 1)) t176 _ ?side1 ?side2 A9.out).mono ?_); (case side1 => repeat (first | exact (Kd.C_below HR1.out HB.out) | (with_reducible refine Kd.C_alloc ?_ _) | (with_reducible refine Kd.C_drewN ?_ _) | (with_reducible refine Kd.C_drew ?_))); (case side2 => exact HC1.out); rintro e w10 ⟨rfl, hb⟩; have n0_ := Aside0.mk (below_step (by repeat (first | (with_reducible first | exact HB.out | apply below_alloc | apply pw_below_drewN | apply below_drew1) | exact HB.out)) hb); clear HB; have HB := n0_; clear n0_; (try clear hb); (try clear hb2); (try clear hk); (try clear hi)))
        repeat (go_quiet (first | (go_at_call 73; (with_reducible refine (impl_areWithin.calls _ _ l1 0 (wrap64 (a0 - 1)) t176 _ ?side1 ?side2 A9.out).mono ?_); (case side1 => repeat (first | exact (Kd.C_below HR1.out HB.out) | (with_reducible refine Kd.C_alloc ?_ _) | (with_reducible refine Kd.C_drewN ?_ _) | (with_reducible refine Kd.C_drew ?_))); (case side2 => exact HC1.out); rintro e w10 ⟨rfl, hb⟩; have n0_ := Aside0.mk (below_step (by repeat (first | (with_reducible first | exact HB.out | apply below_alloc | apply pw_below_drewN | apply below_drew1) | exact HB.out)) hb); clear HB; have HB := n0_; clear n0_; (try clear hb); (try clear hb2); (try clear hk); (try clear hi))); try go_wp2_with (first | (go_at_call 73; (with_reducible refine (impl_areWithin.calls _ _ l1 0 (wrap64 (a0 - 1)) t176 _ ?side1 ?side2 A9.out).mono ?_); (case side1 => repeat (first | exact (Kd.C_below HR1.out HB.out) | (with_reducible refine Kd.C_alloc ?_ _) | (with_reducible refine Kd.C_drewN ?_ _) | (with_reducible refine Kd.C_drew ?_))); (case side2 => exact HC1.out); rintro e w10 ⟨rfl, hb⟩; have n0_ := Aside0.mk (below_step (by repeat (first | (with_reducible first | exact HB.out | apply below_alloc | apply pw_below_drewN | apply below_drew1) | exact HB.out)) hb); clear HB; have HB := n0_; clear n0_; (try clear hb); (try clear hb2); (try clear hk); (try clear hi))))
        go_ret
        exact ⟨by first | rfl | (simp [errW_none, errW_some] <;> rfl) | (simp [*, errW_none, errW_some] <;> rfl), by repeat (first | (with_reducible first | exact HB.out | apply below_alloc | apply pw_below_drewN | apply below_drew1) | exact HB.out)⟩

-- NOT PRINTED: function 58 (impl_AreTests_1)

/-! ### impl_AreTests: function 44 -/
namespace Aux2
theorem w64 {x : Int} (h0 : -9223372036854775808 ≤ x) (h1 : x ≤ 9223372036854775807) : wrap64 x = x := by unfold wrap64; omega
theorem up64 {i n : Nat} (h : i < n) (hn : n ≤ 4611686018427387904) : wrap64 ((i : Int) + 1) = ((i + 1 : Nat) : Int) := by rw [w64 (by omega) (by omega)]; omega
theorem rd_lt {xs : List Int} {i : Nat} (h : i < xs.length) : rd xs (i : Int) = xs[i] := by unfold rd; simp [List.getD_eq_getElem?_getD, h]
/-- Is each one greater than the one before it? -/
def p_up : List Int → Bool
  | x :: y :: l => decide (x < y) && p_up (y :: l)
  | _ => true
end Aux2
/-- Is a list a strictly increasing one of so many wires? -/
def impl_AreTests.p_rising (a : Int) (l : List Int) : Bool := Aux2.p_up l && l.all fun y => decide (0 ≤ y) && decide (y ≤ wrap64 (a - 1))
theorem impl_AreTests.rising_l0 (a : Int) (l : List Int) (hn : l.length ≤ 4000000) : ∀ (d i k : Nat), i + d = l.length → 1 ≤ i → d < k → impl_isRising.l0 k a l (i : Int) = some (Aux2.p_up (l.drop (i - 1)) && l.all fun y => decide (0 ≤ y) && decide (y ≤ wrap64 (a - 1)))
  | 0, i, k, hi, h1, hk => by
    obtain ⟨k, rfl⟩ : ∃ q, k = q + 1 := ⟨k - 1, by omega⟩
    have e : Aux2.p_up (l.drop (i - 1)) = true := by
      have : (l.drop (i - 1)).length ≤ 1 := by rw [List.length_drop]; omega
      cases hq : l.drop (i - 1) with
      | nil => rfl
      | cons x t =>
        rw [hq] at this
        cases t with
        | nil => rfl
        | cons y t => simp at this
    simp only [impl_isRising.l0]
    rw [if_neg (by omega), e]
    unfold impl_areWithin.f impl_areWithin_1.f impl_areWithin_1.in_
    simp [List.not_any_eq_all_not]
  | d + 1, i, k, hi, h1, hk => by
    obtain ⟨k, rfl⟩ : ∃ q, k = q + 1 := ⟨k - 1, by omega⟩
    have ha : i < l.length := by omega
    have hb : i - 1 < l.length := by omega
    have ih := impl_AreTests.rising_l0 a l hn d (i + 1) k (by omega) (by omega) (by omega)
    have e1 : wrap64 ((i : Int) - 1) = ((i - 1 : Nat) : Int) := by rw [Aux2.w64 (by omega) (by omega)]; omega
    simp only [impl_isRising.l0]
    rw [if_pos (by omega), if_pos (by omega), e1, if_pos (by omega), if_pos (by omega), Aux2.rd_lt ha, Aux2.rd_lt hb, Aux2.up64 ha (by omega), ih]
    rw [List.drop_eq_getElem_cons hb, show i - 1 + 1 = i by omega, List.drop_eq_getElem_cons ha, show i + 1 - 1 = i by omega, List.drop_eq_getElem_cons ha]
    by_cases e : l[i] ≤ l[i - 1]
    · rw [if_pos e]
      simp [Aux2.p_up, show ¬ l[i - 1] < l[i] by omega]
    · rw [if_neg e]
      simp [Aux2.p_up, show l[i - 1] < l[i] by omega]
theorem impl_AreTests.rising_f (a : Int) (l : List Int) (hn : l.length ≤ 4000000) {k : Nat} (hk : l.length < k) : impl_isRising.f k a l = some (impl_AreTests.p_rising a l) := by
  unfold impl_isRising.f impl_AreTests.p_rising
  by_cases h : 1 ≤ l.length
  · have := impl_AreTests.rising_l0 a l hn (l.length - 1) 1 k (by omega) (by omega) (by omega)
    simpa using this
  · obtain ⟨k, rfl⟩ : ∃ q, k = q + 1 := ⟨k - 1, by omega⟩
    have e : l = [] := List.eq_nil_of_length_eq_zero (by omega)
    subst e
    simp only [impl_isRising.l0]
    rw [if_neg (by simp)]
    unfold impl_areWithin.f impl_areWithin_1.f
    simp [Aux2.p_up]
/-- The closure: is a row none of so many wires, or empty? -/
def impl_AreTests.p_bad (a : Int) (c : List Int) : Bool := decide (c.length = 0) || !impl_AreTests.p_rising a c
theorem impl_AreTests.clos (a : Int) (B : Nat) (A : Option Addr) (cc : Nat) (c : List Int) (w : World) (hB : w.cell? ⟨B, 0, none⟩ = some (.int .i64 a)) (hc : c.length ≤ 1048576) (hr : Kd.C (Kd.int .i64) w A c.length c) (hcc : c.length ≤ cc) :
    Calls Tryd.prog 58 #[.slice A c.length cc, .pointer (some ⟨B, 0, none⟩)] w fun e w' => e = .returned (.bool (impl_AreTests.p_bad a c)) ∧ Below w.heap.size w w' := by
  have h1 := Aside0.mk (impl_AreTests.rising_f a c (by omega) (show c.length < 2000000 by omega))
  have hp : Aside0 (impl_AreTests.p_bad a c = (decide (c.length = 0) || !impl_AreTests.p_rising a c)) := ⟨rfl⟩
  have HR := Aside0.mk hr
  have HC := Aside0.mk hcc
  clear hr hcc
  by_cases h0 : c.length = 0
  · have d1 : ((c.length : Int) == 0) = true := by rw [h0]; rfl
    have d2 : c = [] := List.eq_nil_of_length_eq_zero h0
    have hb : Aside0 (impl_AreTests.p_bad a c = true) := ⟨by rw [hp.out, decide_eq_true h0]; rfl⟩
    clear hp h1 h0
    subst d2
    go_enter Tryd.func58, Tryd.ntmps58
    go_wp2
    go_ret
    exact ⟨by rw [hb.out]; rfl, by repeat (first | exact Below.refl _ _ | apply below_alloc | apply pw_below_drewN)⟩
  · have d1 : ((c.length : Int) == 0) = false := beq_eq_false_iff_ne.mpr (by omega)
    have d2 : ¬ c = [] := fun e => h0 (by rw [e]; rfl)
    have hb : Aside0 (impl_AreTests.p_bad a c = !impl_AreTests.p_rising a c) := ⟨by rw [hp.out, decide_eq_false h0]; rfl⟩
    clear hp h0
    generalize impl_AreTests.p_rising a c = q at h1 hb
    generalize impl_AreTests.p_bad a c = q2 at hb ⊢
    go_enter Tryd.func58, Tryd.ntmps58
    go_wp2_with fail
    refine (impl_isRising.calls 2000000 a A cc c q _ HR.out HC.out h1.out).mono ?_
    rintro e w' ⟨rfl, hd⟩
    go_wp2
    go_ret
    exact ⟨by rw [hb.out]; rfl, by first | exact hd | exact Go.Proofs.YtbghdbpaihkcjaaDoorW.Rng.drawn_below hd⟩
theorem impl_AreTests.ret_int {k : IntKind} {a b : Int} (h : a = b) : Ending.returned (.int k a) = .returned (.int k b) := by rw [h]
open Go.Proofs.YtbghdbpaihkcjaaDoorW.Help in
set_option maxHeartbeats 2000000 in
theorem impl_AreTests.indexFunc (g : Nat) (lb : Array Value) (p : (List Int) → Bool) (A1 : Option Addr) (c1 : Nat) (l1 : List (List Int)) (w : World) (hr : Kd.C (Kd.slice 3 (Kd.int .i64)) w A1 l1.length l1)
    (eg : ∀ args w, (callFunc g args).run Tryd.prog w = .ok (.enter g args) w)
    (hp : ∀ (W : World) (A : Option Addr) (c : Nat) (x : List Int), x ∈ l1 → Below w.heap.size w W → Kd.C (Kd.int .i64) W A x.length x → x.length ≤ c → Calls Tryd.prog g (#[.slice A x.length c] ++ lb) W fun e W' => e = .returned (.bool (p x)) ∧ Below w.heap.size w W') :
    Calls Tryd.prog 72 #[.slice A1 l1.length c1, .func (.func g) #[] lb] w fun e w' => e = .returned (.int .i64 (fi p l1)) ∧ Below w.heap.size w w' := by
  have hlen : l1.length ≤ 9223372036854775807 := hr.2.1
  have HR := Aside0.mk hr
  have HP := Aside0.mk hp
  clear hr hp
  go_enter Tryd.func72, Tryd.ntmps72
  go_wp2
  go_loopg [5, 8] l1.length (fun gg _ s8 wr => ∃ x : Int, s8 = .int .i64 x ∧ Aside0 (0 ≤ x ∧ x ≤ (l1.length : Int) ∧ l1.length - x.toNat ≤ gg) ∧ Aside0 (Below w.heap.size w wr) ∧ Aside0 (∀ j, j < x.toNat → p (l1.getD j ([] : List Int)) = false))
  case atStart => exact ⟨0, rfl, ⟨by omega, by omega, by simp⟩, ⟨Below.refl _ w⟩, ⟨fun j hj => absurd hj (Nat.not_lt_zero _)⟩⟩
  case round =>
    obtain ⟨x, rfl, HX, BW, A⟩ := hrel
    by_cases hlt : x < (l1.length : Int)
    · have p0 : 0 ≤ x := HX.out.1
      obtain ⟨ad, A_, c_, e, hx0, hl0, hi0⟩ := at_L1 HR.out x p0 hlt
      subst e
      have hlt0 := World.block_lt_of_cell? w _ hx0
      replace hx0 := (BW.out.cell hlt0).trans hx0
      have hmem : rd_L1 l1 x ∈ l1 := by
        unfold rd_L1
        rw [List.getD_eq_getElem?_getD, List.getElem?_eq_getElem (show x.toNat < l1.length by omega)]
        exact List.getElem_mem _
      have hcall := HP.out wr A_ c_ (rd_L1 l1 x) hmem BW.out (Kd.C_below hi0 BW.out) hl0
      clear hmem hi0 hl0 hlt0
      have B : Aside0 (l1.getD x.toNat ([] : List Int) = rd_L1 l1 x) := ⟨rfl⟩
      have HL := Aside0.mk hlt
      have d1 : decide (x < (l1.length : Int)) = true := decide_eq_true hlt
      have d0 : decide (0 ≤ x) = true := decide_eq_true p0
      replace p0 := eq_true p0
      replace hlt := eq_true hlt
      clear HP HR
      generalize rd_L1 l1 x = y at hcall hx0 B
      cases hq : p y with
      | true =>
        rw [hq] at hcall
        have HQ := Aside0.mk hq
        clear hq
        go_wp2_with fail
        refine hcall.mono ?_
        rintro e w' ⟨rfl, hb'⟩
        go_wp2
        go_ret
        exact ⟨impl_AreTests.ret_int (by rw [fi_hit ([] : List Int) (k := x.toNat) (by have := HL.out; have := HX.out; omega) (by rw [B.out]; exact HQ.out) A.out, Int.toNat_of_nonneg HX.out.1]), hb'⟩
      | false =>
        rw [hq] at hcall
        have HQ := Aside0.mk hq
        clear hq
        go_wp2_with fail
        refine hcall.mono ?_
        rintro e w' ⟨rfl, hb'⟩
        go_wp2
        go_roundg (l1.length - (x.toNat + 1))
        case measure => have := HL.out; have := HX.out; omega
        case rel =>
          have h1 := HL.out
          have h2 := HX.out
          refine ⟨x + 1, by first | rfl | (rw [show wrap64 (x + 1) = x + 1 by unfold wrap64; omega]), ⟨by omega, by omega, by omega⟩, ⟨hb'⟩, ⟨fun j hj => ?_⟩⟩
          by_cases e : j = x.toNat
          · rw [e, B.out]; exact HQ.out
          · exact A.out j (by omega)
    · have HL := Aside0.mk hlt
      have d1 : decide (x < (l1.length : Int)) = false := decide_eq_false hlt
      clear hlt
      go_wp2
      go_ret
      exact ⟨impl_AreTests.ret_int (by rw [fi_miss ([] : List Int) (fun j hj => A.out j (by have := HL.out; have := HX.out; omega))]), BW.out⟩
open Go.Proofs.YtbghdbpaihkcjaaDoorW.Help in
theorem impl_AreTests.containsFunc (g : Nat) (lb : Array Value) (p : (List Int) → Bool) (A1 : Option Addr) (c1 : Nat) (l1 : List (List Int)) (w : World) (hr : Kd.C (Kd.slice 3 (Kd.int .i64)) w A1 l1.length l1)
    (eg : ∀ args w, (callFunc g args).run Tryd.prog w = .ok (.enter g args) w)
    (hp : ∀ (W : World) (A : Option Addr) (c : Nat) (x : List Int), x ∈ l1 → Below w.heap.size w W → Kd.C (Kd.int .i64) W A x.length x → x.length ≤ c → Calls Tryd.prog g (#[.slice A x.length c] ++ lb) W fun e W' => e = .returned (.bool (p x)) ∧ Below w.heap.size w W') :
    Calls Tryd.prog 57 #[.slice A1 l1.length c1, .func (.func g) #[] lb] w fun e w' => e = .returned (.bool (l1.any p)) ∧ Below w.heap.size w w' := by
  have hcon := impl_AreTests.indexFunc g lb p A1 c1 l1 w hr eg hp
  have e1 : Aside0 (decide (fi p l1 ≥ 0) = l1.any p) := ⟨fi_ge p l1⟩
  generalize fi p l1 = r at hcon e1
  clear hr eg hp
  go_enter Tryd.func57, Tryd.ntmps57
  go_wp2_with (go_at_call 72; refine hcon.mono ?_; rintro e w' ⟨rfl, hb'⟩)
  go_ret
  exact ⟨by rw [← e1.out]; rfl, hb'⟩
def impl_AreTests.p_all (a0 : Int) (l1 : List (List Int)) : Bool := decide (1 ≤ a0) && decide (a0 ≤ 10) && (decide (l1.length ≤ 12) && l1.all fun c => !impl_AreTests.p_bad a0 c)
def impl_AreTests.f (a0 : Int) (l1 : List (List Int)) : Option Bool := if ∀ c ∈ l1, c.length ≤ 1048576 then some (impl_AreTests.p_all a0 l1) else none
theorem impl_AreTests.calls (a0 : Int) (A1 : Option Addr) (c1 : Nat) (l1 : List (List Int)) (r : Bool) (w : World) (hr1 : Kd.C (Kd.slice 3 (Kd.int .i64)) w A1 l1.length l1) (hc1 : l1.length ≤ c1) (h : impl_AreTests.f a0 l1 = some r) :
    Calls Tryd.prog 44 #[.int .i64 a0, .slice A1 l1.length c1] w fun e w' => e = .returned (.bool r) ∧ Below w.heap.size w w' := by
  have hlen : l1.length ≤ 9223372036854775807 := hr1.2.1
  have eg : ∀ args w, (callFunc 58 args).run Tryd.prog w = .ok (.enter 58 args) w := Go.Proofs.enters_of Tryd.func58 (by kernel_rfl) rfl
  unfold impl_AreTests.f at h
  by_cases hall : ∀ c ∈ l1, c.length ≤ 1048576
  case neg => rw [if_neg hall] at h; cases h
  rw [if_pos hall] at h
  have hask : ∀ W, Calls Tryd.prog 56 #[.int .i64 a0] W fun e w' => e = .returned (.bool (decide (1 ≤ a0) && decide (a0 ≤ 10))) ∧ Drawn0 W w' := fun W => by
    refine (impl_areTested.calls a0 _ W ?_).mono (fun _ _ h => h)
    unfold impl_areTested.f impl_within.f
    by_cases h : 1 ≤ a0
    · rw [if_pos h]; simp [h]
    · rw [if_neg h]; simp [h]
  have hcon : ∀ (W : World) (B : Nat), Below w.heap.size w W → B < W.heap.size → W.cell? ⟨B, 0, none⟩ = some (.int .i64 a0) → Calls Tryd.prog 57 #[.slice A1 l1.length c1, .func (.func 58) #[] #[.pointer (some ⟨B, 0, none⟩)]] W fun e w' => e = .returned (.bool (l1.any (impl_AreTests.p_bad a0))) ∧ Below W.heap.size W w' := fun W B hb hlt hB => by
    refine impl_AreTests.containsFunc _ _ _ A1 c1 l1 W (Kd.C_below hr1 hb) eg (fun W' A c x hm hb' hr hc => ?_)
    have hB' : W'.cell? ⟨B, 0, none⟩ = some (.int .i64 a0) := (hb'.cell (p := ⟨B, 0, none⟩) hlt).trans hB
    exact (impl_AreTests.clos a0 B A c x W' hB' (hall x hm) hr hc).mono fun e w2 ⟨he, hb2⟩ => ⟨he, below_step hb' hb2⟩
  have hr : Aside0 (r = (decide (1 ≤ a0) && decide (a0 ≤ 10) && (decide (l1.length ≤ 12) && !l1.any (impl_AreTests.p_bad a0)))) := ⟨by
    rw [← Option.some.inj h]
    unfold impl_AreTests.p_all
    rw [List.not_any_eq_all_not]⟩
  clear h hr1 eg hall
  generalize l1.any (impl_AreTests.p_bad a0) = q at hcon hr
  generalize hk : (decide (1 ≤ a0) && decide (a0 ≤ 10)) = k at hask hr
  clear hk
  have HR := hr
  clear hr
  cases k with
  | false =>
    go_enter Tryd.func44, Tryd.ntmps44
    go_wp2_with (go_at_call 56; refine (hask _).mono ?_; rintro e w' ⟨rfl, ⟨nd, rfl⟩⟩)
    go_ret
    exact ⟨by rw [HR.out]; rfl, by repeat (first | exact Below.refl _ _ | apply below_alloc | apply pw_below_drewN)⟩
  | true =>
    by_cases h20 : l1.length ≤ 12
    · have d : decide ((l1.length : Int) ≤ 12) = true := decide_eq_true (by omega)
      have d2 : decide (l1.length ≤ 12) = true := decide_eq_true h20
      have HR2 : Aside0 (r = !q) := ⟨by rw [HR.out, d2]; rfl⟩
      clear HR h20
      go_enter Tryd.func44, Tryd.ntmps44
      go_wp2_with (first | (go_at_call 56; refine (hask _).mono ?_; rintro e w' ⟨rfl, ⟨nd, rfl⟩⟩) | (go_at_call 57; (refine (hcon _ _ (by repeat (first | exact Below.refl _ _ | apply below_alloc | apply pw_below_drewN)) (by simp) (by simp)).mono ?_); rintro e w' ⟨rfl, hb⟩))
      go_ret
      exact ⟨by rw [HR2.out]; rfl, below_step (by repeat (first | exact Below.refl _ _ | apply below_alloc | apply pw_below_drewN)) hb⟩
    · have d : decide ((l1.length : Int) ≤ 12) = false := decide_eq_false (by omega)
      have d2 : decide (l1.length ≤ 12) = false := decide_eq_false h20
      have HR2 : Aside0 (r = false) := ⟨by rw [HR.out, d2]; rfl⟩
      clear HR h20
      go_enter Tryd.func44, Tryd.ntmps44
      go_wp2_with (go_at_call 56; refine (hask _).mono ?_; rintro e w' ⟨rfl, ⟨nd, rfl⟩⟩)
      go_ret
      exact ⟨by rw [HR2.out]; rfl, by repeat (first | exact Below.refl _ _ | apply below_alloc | apply pw_below_drewN)⟩


end Go.Proofs.YtbghdbpaihkcjaaDoor.PFnExactBestTest
