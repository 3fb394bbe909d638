-- Written by a program of this claim, over the kit's print: the functions that a law reaches, their plain forms and the walks.
import Derived.Test.YthkoignldhocgabPFnExactBinaryTestsx0
import Derived.Test.YthkoignldhocgabPFnExactBinaryTestsx1
namespace Go.Proofs.Ythkoignldhocgab.PFnExactBinaryTests
open Go.RowKit Go.Proofs.YthkoignldhocgabW.PrintWords Go.Proofs.YthkoignldhocgabW.PrintLast Go.Proofs.YthkoignldhocgabW.PrintMore
attribute [local go_sem] max2_int min2_int max_two min_two max_three min_three max_four min_four   -- for this text's walks alone
set_option linter.unusedVariables false
set_option linter.unusedSimpArgs false

/-! ### laws_markIntS: function 38 -/
def laws_markIntS.l0 : Nat → List Int → Int → Int → Option (Int × List Int)
  | 0, _, _, _ => none
  | k + 1, x0, x1, x5 => if x5 < (x0.length : Int) then (if 0 ≤ x5 then (laws_markIntS.l0 k (x0.set (x5 : Int).toNat x1) (wrap64 (x1 + 1)) (wrap64 (x5 + 1))) else (none)) else (some (x1, x0))
def laws_markIntS.f (k : Nat) (l0 : List Int) (a1 : Int) : Option (Int × List Int) := laws_markIntS.l0 k l0 a1 0
theorem laws_markIntS.mono_l : ∀ k, (∀ y0 y1 y2, LeO (laws_markIntS.l0 k y0 y1 y2) (laws_markIntS.l0 (k + 1) y0 y1 y2))
  | 0 => fun _ _ _ r h => by simp [laws_markIntS.l0] at h
  | k + 1 => by
    have ih0 := laws_markIntS.mono_l k
    · intro y0 y1 y2
      unfold laws_markIntS.l0
      repeat' first
      | (with_reducible exact ih0 _ _ _)
      | (with_reducible exact LeO.refl _)
      | (with_reducible exact LeO.none _)
      | (with_reducible refine LeO.ite ?_ ?_)
      | (with_reducible refine LeO.bind ?_ (fun _ => ?_))
      | exact ih0 _ _ _
      | exact LeO.none _
      | refine LeO.ite ?_ ?_
      | refine LeO.bind ?_ (fun _ => ?_)
theorem laws_markIntS.mono : ∀ a0 a1 k, LeO (laws_markIntS.f k a0 a1) (laws_markIntS.f (k + 1) a0 a1) := by
  intro a0 a1 k
  have ih0 := laws_markIntS.mono_l k
  unfold laws_markIntS.f
  repeat' first
      | (with_reducible exact ih0 _ _ _)
      | (with_reducible exact LeO.refl _)
      | (with_reducible exact LeO.none _)
      | (with_reducible refine LeO.ite ?_ ?_)
      | (with_reducible refine LeO.bind ?_ (fun _ => ?_))
      | exact ih0 _ _ _
      | exact LeO.none _
      | refine LeO.ite ?_ ?_
      | refine LeO.bind ?_ (fun _ => ?_)
set_option maxHeartbeats 8000000 in
set_option maxRecDepth 100000 in
theorem laws_markIntS.calls (k : Nat) (P0_ : Nat → Prop) (u9000_ : Value) (l0 : List Int) (a1 : Int) (r1 : Int) (r2 : List Int) (w0 w : World) (hB : Below w0.heap.size w0 w) (ho0 : Kd.R (Kd.int .i64) 3 w w0.heap.size P0_ u9000_ l0) (h : laws_markIntS.f k l0 a1 = some (r1, r2)) :
    Calls Try.prog 38 #[u9000_, .int .i64 a1] w fun e w' => e = .returned (.int .i64 r1) ∧ Kd.R (Kd.int .i64) 3 w' w0.heap.size (fun k_ => (P0_ k_ ∨ w.heap.size ≤ k_)) u9000_ r2 ∧ Below w0.heap.size w0 w' ∧ Kept w w' (fun k_ => P0_ k_) := by
  have HO0 := Aside0.mk (show Kd.R (Kd.int .i64) 3 w w0.heap.size (fun k_ => (P0_ k_ ∨ w.heap.size ≤ k_)) u9000_ l0 from Kd.R_mono ho0 (fun k_ hk => (.inl hk)))
  have HK := Aside0.mk (Kept.refl w (fun k_ => P0_ k_))
  have HW0 := Aside0.mk hB.size
  have HB := Aside0.mk hB
  clear hB
  have H : (laws_markIntS.l0 k l0 a1 0) = some (r1, r2) := h
  clear h
  have H' := Aside0.mk H
  clear H
  go_enter Try.func38, Try.ntmps38
  go_wp2
  go_loopg [1, 5] k (fun kq v1 v5 w' => ∃ (x0_1 : List Int) (x1_1 : Int) (x5_1 : Int), v1 = .int .i64 x1_1 ∧ v5 = .int .i64 x5_1 ∧ Aside0 (laws_markIntS.l0 kq x0_1 x1_1 x5_1 = some (r1, r2)) ∧ Aside0 (kq ≤ k) ∧ Aside0 (Kd.R (Kd.int .i64) 3 w' w0.heap.size (fun k_ => (P0_ k_ ∨ w.heap.size ≤ k_)) u9000_ x0_1) ∧ Aside0 (Kept w w' (fun k_ => P0_ k_)) ∧ Aside0 (Below w0.heap.size w0 w'))
  case atStart => exact ⟨(l0), (a1), (0), (by first | rfl | (simp; done) | (simp [*]; done)), (by first | rfl | (simp; done) | (simp [*]; done)), H', ⟨Nat.le_refl _⟩, ⟨by (with_reducible repeat (first | apply Kd.R_alloc | apply Kd.R_drewN | apply Kd.R_drew)); exact HO0.out⟩, ⟨by repeat (first | (with_reducible first | exact HK.out | apply Kept.alloc | apply Kept.drewN | apply Kept.drew) | exact HK.out)⟩, ⟨by repeat (first | (with_reducible first | exact HB.out | apply below_alloc | apply pw_below_drewN | apply below_drew1) | exact HB.out)⟩⟩
  case round =>
    clear H'
    try clear p2
    obtain ⟨x0_1, x1_1, x5_1, rfl, rfl, HA, HK1, HO_0, HK, HB⟩ := hrel
    cases gk with
    | zero => exact absurd HA.out (by simp [laws_markIntS.l0])
    | succ k1 =>
      have H := HA.out
      clear HA
      simp only [laws_markIntS.l0] at H
      by_cases c3 : x5_1 < (x0_1.length : Int)
      · rw [if_pos c3] at H
        have c3b0 : decide (x5_1 < (x0_1.length : Int)) = true := decide_eq_true c3
        clear c3
        by_cases c4 : 0 ≤ x5_1
        · rw [if_pos c4] at H
          have c4b0 : decide (0 ≤ x5_1) = true := decide_eq_true c4
          clear c4
          obtain ⟨y127, hy127⟩ : ∃ y_ : List Int, y_ = (x0_1.set (x5_1 : Int).toNat x1_1) := ⟨_, rfl⟩
          replace H : (laws_markIntS.l0 k1 y127 (wrap64 (x1_1 + 1)) (wrap64 (x5_1 + 1))) = some (r1, r2) := by first | (rw [hy127]; with_reducible exact H) | (have H2_ := (Option.bind_some _ _).symm.trans H; rw [hy127]; with_reducible exact H2_) | (have H2_ := (Option.bind_some _ _).symm.trans H; with_reducible exact H2_) | with_reducible exact H | (rw [hy127]; exact H) | exact H
          have Ny127 := Aside0.mk hy127
          clear hy127
          have H' := Aside0.mk H
          clear H
          obtain ⟨Ao6, co6, eo6⟩ := Kd.R_slice HO_0.out
          subst eo6
          have p5 : 0 ≤ (x5_1 : Int) := of_decide_eq_true (by first | (with_reducible assumption) | assumption)
          have q5 : (x5_1 : Int) < ((x0_1.length : Int) : Int) := of_decide_eq_true (by first | (with_reducible assumption) | assumption)
          obtain ⟨go5, co5, eo5, gb5, gl5, cl5, HG5⟩ := Kd.R_form HO_0.out (by omega)
          (first | cases eo5 | (injection eo5 with ea_ en_ ec_; (first | subst ea_ | (injection ea_ with ea_; subst ea_)); subst ec_; clear en_))
          have GB5 := Aside0.mk gb5
          have GG5 := Aside0.mk HG5
          clear gb5 gl5 HG5
          have HMgo5 := Aside0.mk (show (P0_ go5 ∨ w.heap.size ≤ go5) from (HO_0.out.1 _ rfl))
          obtain ⟨hx5_0, hf5_0⟩ := Kd.R_celln 0 HO_0.out (x5_1 : Int) p5 q5
          replace p5 := eq_true p5
          replace q5 := eq_true q5
          have HP7 := Kd.R_putg HO_0.out (x5_1 : Int) x1_1
          go_wp2_with (first | ((with_reducible refine gate_store (t := 3) (p := 15) rfl ?_); refine store_event (t := 3) (p := 15) (v := ?vo_w8) (w1 := (wr.setCell ⟨go5, (x5_1 : Int).toNat, none⟩ (.int .i64 x1_1))) ?hg ?ho ?hn ?hr ?_; (case ho => rfl); (case hg => rfl); (case hn => rfl); (case hr => first | (go_simp; done) | (go_simp; rfl)); intro w8 hw; have hg : wr.grownBy w8 (some go5) := (by rw [hw]; exact HP7.2); have hp_ : Kd.R (Kd.int .i64) 3 w8 w0.heap.size (fun k_ => (P0_ k_ ∨ w.heap.size ≤ k_)) (.slice (some ⟨go5, 0, none⟩) x0_1.length co6) y127 := (by rw [hw, Ny127.out]; exact HP7.1); clear HP7; have n0_ := Aside0.mk (hp_); have n1_ := Aside0.mk ((by rw [hw]; exact below_set (HB.out) GB5.out : Below w0.heap.size w0 w8)); have n2_ := Aside0.mk (Kept.of_grown (S := (fun k_ => P0_ k_)) hg (by repeat (first | (with_reducible first | exact HK.out | apply Kept.alloc | apply Kept.drewN | apply Kept.drew) | exact HK.out)) (fun k_ e_ => (HO_0.out.1 k_ e_))); clear HO_0; clear HB; clear HK; have HO_0 := n0_; have HB := n1_; have HK := n2_; clear n0_ n1_ n2_; clear hg hw hp_))
          go_roundg k1
          case measure => have := HK1.out; omega
          case rel => exact ⟨(y127), (wrap64 (x1_1 + 1)), (wrap64 (x5_1 + 1)), (by first | rfl | (simp; done) | (simp [*]; done)), (by first | rfl | (simp; done) | (simp [*]; done)), H', ⟨by have := HK1.out; omega⟩, ⟨by (with_reducible repeat (first | apply Kd.R_alloc | apply Kd.R_drewN | apply Kd.R_drew)); exact HO_0.out⟩, ⟨by repeat (first | (with_reducible first | exact HK.out | apply Kept.alloc | apply Kept.drewN | apply Kept.drew) | exact HK.out)⟩, ⟨by repeat (first | (with_reducible first | exact HB.out | apply below_alloc | apply pw_below_drewN | apply below_drew1) | exact HB.out)⟩⟩
        · rw [if_neg c4] at H
          exact absurd H (by simp)
      · rw [if_neg c3] at H
        have c3b0 : decide (x5_1 < (x0_1.length : Int)) = false := decide_eq_false c3
        clear c3
        simp only [Option.some.injEq, Prod.mk.injEq] at H
        obtain ⟨rfl, rfl⟩ := H
        obtain ⟨Ao9, co9, eo9⟩ := Kd.R_slice HO_0.out
        subst eo9
        go_wp2
        go_ret
        exact ⟨by first | rfl | (simp [errW_none, errW_some] <;> rfl) | (simp [*, errW_none, errW_some] <;> rfl), by (with_reducible repeat (first | apply Kd.R_alloc | apply Kd.R_drewN | apply Kd.R_drew)); exact HO_0.out, by repeat (first | (with_reducible first | exact HB.out | apply below_alloc | apply pw_below_drewN | apply below_drew1) | exact HB.out), by repeat (first | (with_reducible first | exact HK.out | apply Kept.alloc | apply Kept.drewN | apply Kept.drew) | exact HK.out)⟩

/-! ### laws_markIntSS: function 16 -/
def laws_markIntSS.l0 : Nat → List (List Int) → Int → Int → Option (Int × List (List Int))
  | 0, _, _, _ => none
  | k + 1, x0, x1, x5 => if x5 < (x0.length : Int) then (if 0 ≤ x5 then ((laws_markIntS.f k (x0.getD x5.toNat []) x1).bind fun b => laws_markIntSS.l0 k (x0.set x5.toNat b.2) b.1 (wrap64 (x5 + 1))) else (none)) else (some (x1, x0))
def laws_markIntSS.f (k : Nat) (l0 : List (List Int)) (a1 : Int) : Option (Int × List (List Int)) := laws_markIntSS.l0 k l0 a1 0
theorem laws_markIntSS.mono_l : ∀ k, (∀ y0 y1 y2, LeO (laws_markIntSS.l0 k y0 y1 y2) (laws_markIntSS.l0 (k + 1) y0 y1 y2))
  | 0 => fun _ _ _ r h => by simp [laws_markIntSS.l0] at h
  | k + 1 => by
    have ih0 := laws_markIntSS.mono_l k
    intro y0 y1 y2
    unfold laws_markIntSS.l0
    refine LeO.ite (LeO.ite (LeO.bind (laws_markIntS.mono _ _ _) (fun _ => ih0 _ _ _)) (LeO.none _)) (LeO.refl _)
theorem laws_markIntSS.mono : ∀ a0 a1 k, LeO (laws_markIntSS.f k a0 a1) (laws_markIntSS.f (k + 1) a0 a1) := fun a0 a1 k => laws_markIntSS.mono_l k a0 a1 0
set_option maxHeartbeats 1000000 in
set_option maxRecDepth 100000 in
theorem laws_markIntSS.calls (k : Nat) (P0_ : Nat → Prop) (u : Value) (l0 : List (List Int)) (a1 : Int) (r1 : Int) (r2 : List (List Int)) (w0 w : World) (hB : Below w0.heap.size w0 w) (ho0 : Kd.S (Kd.slice 3 (Kd.int .i64)) 32 w w0.heap.size P0_ u l0) (h : laws_markIntSS.f k l0 a1 = some (r1, r2)) :
    Calls Try.prog 16 #[u, .int .i64 a1] w fun e w' => e = .returned (.int .i64 r1) ∧ Kd.S (Kd.slice 3 (Kd.int .i64)) 32 w' w0.heap.size P0_ u r2 ∧ Below w0.heap.size w0 w' ∧ Kept w w' P0_ := by
  obtain ⟨Au, cu, rfl⟩ := Kd.S_slice ho0
  have HO := Aside0.mk ho0
  have HK := Aside0.mk (Kept.refl w P0_)
  have HB := Aside0.mk hB
  clear hB ho0
  have H' := Aside0.mk (show laws_markIntSS.l0 k l0 a1 0 = some (r1, r2) from h)
  clear h
  go_enter Try.func16, Try.ntmps16
  go_wp2
  go_loopg [1, 5] k (fun kq v1 v5 w' => ∃ (x0_1 : List (List Int)) (x1_1 : Int) (x5_1 : Int), v1 = .int .i64 x1_1 ∧ v5 = .int .i64 x5_1 ∧ Aside0 (laws_markIntSS.l0 kq x0_1 x1_1 x5_1 = some (r1, r2)) ∧ Aside0 (kq ≤ k) ∧ Aside0 (Kd.S (Kd.slice 3 (Kd.int .i64)) 32 w' w0.heap.size P0_ (.slice Au l0.length cu) x0_1) ∧ Aside0 (Kept w w' P0_) ∧ Aside0 (Below w0.heap.size w0 w'))
  case atStart => exact ⟨l0, a1, 0, rfl, rfl, H', ⟨Nat.le_refl _⟩, HO, HK, HB⟩
  case round =>
    clear H' HO HK HB
    obtain ⟨x0_1, x1_1, x5_1, rfl, rfl, HA, HK1, HO, HK, HB⟩ := hrel
    have hl := (Kd.S_reads' HO.out).1
    rw [hl] at HO
    (try simp only [hl])
    have HL := Aside0.mk hl
    clear hl
    cases gk with
    | zero => exact absurd HA.out (by simp [laws_markIntSS.l0])
    | succ k1 =>
      have H := HA.out
      clear HA
      simp only [laws_markIntSS.l0] at H
      by_cases c3 : x5_1 < (x0_1.length : Int)
      · rw [if_pos c3] at H
        have c3b0 : decide (x5_1 < (x0_1.length : Int)) = true := decide_eq_true c3
        by_cases c4 : 0 ≤ x5_1
        · rw [if_pos c4] at H
          have c4b0 : decide (0 ≤ x5_1) = true := decide_eq_true c4
          obtain ⟨b, A50, H⟩ := Option.bind_eq_some_iff.mp H
          obtain ⟨m1, m2⟩ := b
          have H' := Aside0.mk H
          clear H
          obtain ⟨g, cap, hv, hg1, hg2, hg3⟩ := Kd.S_form HO.out (by omega)
          injection hv with ha hn hc
          subst ha hc
          clear hn hg1 hg2 hg3
          obtain ⟨oki, c, hcl, hM, hcell, hoki, hH⟩ := Kd.S_lend HO.out [] x5_1 c4 c3
          generalize x0_1.getD x5_1.toNat [] = el at hM A50
          have A5 := Aside0.mk A50
          clear A50
          obtain ⟨v, rfl, hR⟩ := hM
          obtain ⟨A1, c1, rfl⟩ := Kd.R_slice hR
          have hx := hcell 0 _ rfl
          clear hcell hcl
          (try simp only [show (Kd.slice 3 (Kd.int .i64)).sz = 1 from rfl, Nat.mul_one, Nat.add_zero] at hx)
          have HR := Aside0.mk hR
          have HOK := Aside0.mk hoki
          have HH := Aside0.mk hH
          clear hR hoki hH c3 c4 HO
          have c3 : x5_1 < (x0_1.length : Int) := of_decide_eq_true c3b0
          have c4 : 0 ≤ x5_1 := of_decide_eq_true c4b0
          replace c3 := eq_true c3
          replace c4 := eq_true c4
          go_wp2_with fail
          refine (laws_markIntS.calls k1 oki (.slice A1 _ c1) el x1_1 m1 m2 w0 _ HB.out HR.out A5.out).mono ?_
          rintro e w' ⟨rfl, hy0, hb, hkp⟩
          have n0 := Aside0.mk (Kd.H_back (Kd.H_step HH.out (fun k' hk' hn hlt => hkp.2 k' hlt hn)) (okp := oki) (Kd.M_row (Kd.R_reok rfl hy0 (fun k' e_ => HR.out.1 k' e_))) (fun _ hk => hk))
          have n1 := Aside0.mk (HK.out.then_ hkp (fun k' hk' => .inl (HOK.out k' hk').1))
          have n2 := Aside0.mk hb
          clear HH HK HB HR HOK hy0 hb hkp
          go_wp2
          have hl := HL.out
          (try simp only [← hl])
          clear hl
          go_roundg k1
          case measure => have := HK1.out; omega
          case rel => exact ⟨_, m1, (wrap64 (x5_1 + 1)), rfl, (by first | rfl | (simp; done) | (simp [*]; done)), H', ⟨by have := HK1.out; omega⟩, ⟨by have z := n0.out; rw [← HL.out] at z; exact z⟩, n1, n2⟩
        · rw [if_neg c4] at H
          exact absurd H (by simp)
      · rw [if_neg c3] at H
        have c3b0 : decide (x5_1 < (x0_1.length : Int)) = false := decide_eq_false c3
        clear c3
        obtain ⟨rfl, rfl⟩ := Prod.mk.inj (Option.some.inj H)
        clear H
        go_wp2
        go_ret
        exact ⟨rfl, by have z := HO.out; rw [← HL.out] at z; exact z, HB.out, HK.out⟩


/-! ### laws_heldIntS: function 39 -/
def laws_heldIntS.l0 : Nat → List Int → Int → Int → Option (Int)
  | 0, _, _, _ => none
  | k + 1, x0, x1, x5 => if x5 < (x0.length : Int) then (if 0 ≤ x5 then (if (rd x0 x5) = x1 then (laws_heldIntS.l0 k x0 (wrap64 (x1 + 1)) (wrap64 (x5 + 1))) else (some (-1))) else (none)) else (some x1)
def laws_heldIntS.f (k : Nat) (l0 : List Int) (a1 : Int) : Option (Int) := laws_heldIntS.l0 k l0 a1 0
theorem laws_heldIntS.mono_l : ∀ k, (∀ y0 y1 y2, LeO (laws_heldIntS.l0 k y0 y1 y2) (laws_heldIntS.l0 (k + 1) y0 y1 y2))
  | 0 => fun _ _ _ r h => by simp [laws_heldIntS.l0] at h
  | k + 1 => by
    have ih0 := laws_heldIntS.mono_l k
    · intro y0 y1 y2
      unfold laws_heldIntS.l0
      repeat' first
      | (with_reducible exact ih0 _ _ _)
      | (with_reducible exact LeO.refl _)
      | (with_reducible exact LeO.none _)
      | (with_reducible refine LeO.ite ?_ ?_)
      | (with_reducible refine LeO.bind ?_ (fun _ => ?_))
      | exact ih0 _ _ _
      | exact LeO.none _
      | refine LeO.ite ?_ ?_
      | refine LeO.bind ?_ (fun _ => ?_)
theorem laws_heldIntS.mono : ∀ a0 a1 k, LeO (laws_heldIntS.f k a0 a1) (laws_heldIntS.f (k + 1) a0 a1) := by
  intro a0 a1 k
  have ih0 := laws_heldIntS.mono_l k
  unfold laws_heldIntS.f
  repeat' first
      | (with_reducible exact ih0 _ _ _)
      | (with_reducible exact LeO.refl _)
      | (with_reducible exact LeO.none _)
      | (with_reducible refine LeO.ite ?_ ?_)
      | (with_reducible refine LeO.bind ?_ (fun _ => ?_))
      | exact ih0 _ _ _
      | exact LeO.none _
      | refine LeO.ite ?_ ?_
      | refine LeO.bind ?_ (fun _ => ?_)
set_option maxHeartbeats 8000000 in
set_option maxRecDepth 100000 in
theorem laws_heldIntS.calls (k : Nat) (A0 : Option Addr) (c0 : Nat) (l0 : List Int) (a1 : Int) (r : Int) (w : World) (hr0 : Kd.C (Kd.int .i64) w A0 l0.length l0) (hc0 : l0.length ≤ c0) (h : laws_heldIntS.f k l0 a1 = some r) :
    Calls Try.prog 39 #[.slice A0 l0.length c0, .int .i64 a1] w fun e w' => e = .returned (.int .i64 r) ∧ Drawn0 w w' := by
  have HR0 := Aside0.mk hr0
  have HC0 := Aside0.mk hc0
  clear hr0 hc0
  have H : (laws_heldIntS.l0 k l0 a1 0) = some r := h
  clear h
  have H' := Aside0.mk H
  clear H
  go_enter Try.func39, Try.ntmps39
  go_wp2
  go_loopg [1, 5] k (fun kq v1 v5 w' => ∃ (x1_1 : Int) (x5_1 : Int), v1 = .int .i64 x1_1 ∧ v5 = .int .i64 x5_1 ∧ Aside0 (laws_heldIntS.l0 kq l0 x1_1 x5_1 = some r) ∧ Aside0 (kq ≤ k) ∧ Drawn0 w w')
  case atStart => exact ⟨(a1), (0), (by first | rfl | (simp; done) | (simp [*]; done)), (by first | rfl | (simp; done) | (simp [*]; done)), H', ⟨Nat.le_refl _⟩, by repeat (first | exact Drawn0.refl _ | apply Drawn0.step)⟩
  case round =>
    clear H'
    try clear p2
    obtain ⟨x1_1, x5_1, rfl, rfl, HA, HK1, ⟨m1, rfl⟩⟩ := hrel
    cases gk with
    | zero => exact absurd HA.out (by simp [laws_heldIntS.l0])
    | succ k1 =>
      have H := HA.out
      clear HA
      simp only [laws_heldIntS.l0] at H
      by_cases c3 : x5_1 < (l0.length : Int)
      · rw [if_pos c3] at H
        have c3b0 : decide (x5_1 < (l0.length : Int)) = true := decide_eq_true c3
        clear c3
        by_cases c4 : 0 ≤ x5_1
        · rw [if_pos c4] at H
          have c4b0 : decide (0 ≤ x5_1) = true := decide_eq_true c4
          clear c4
          by_cases c5 : (rd l0 x5_1) = x1_1
          · rw [if_pos c5] at H
            have c5b0 : ((rd l0 x5_1) == x1_1) = true := beq_iff_eq.mpr c5
            have c5b1 : ((rd l0 x5_1) != x1_1) = false := bne_eq_false_iff_eq.mpr c5
            clear c5
            have H' := Aside0.mk H
            clear H
            have p128 : 0 ≤ (x5_1 : Int) := of_decide_eq_true (by first | (with_reducible assumption) | assumption)
            have q128 : x5_1 < (l0.length : Int) := of_decide_eq_true (by first | (with_reducible assumption) | assumption)
            obtain ⟨ad128, e128, hx128_0⟩ := Kd.at_int HR0.out x5_1 p128 q128
            cases e128
            replace p128 := eq_true p128
            replace q128 := eq_true q128
            go_wp2
            go_roundg k1
            case measure => have := HK1.out; omega
            case rel => exact ⟨(wrap64 (x1_1 + 1)), (wrap64 (x5_1 + 1)), (by first | rfl | (simp; done) | (simp [*]; done)), (by first | rfl | (simp; done) | (simp [*]; done)), H', ⟨by have := HK1.out; omega⟩, by repeat (first | exact Drawn0.refl _ | apply Drawn0.step)⟩
          · rw [if_neg c5] at H
            have c5b0 : ((rd l0 x5_1) == x1_1) = false := beq_eq_false_iff_ne.mpr c5
            have c5b1 : ((rd l0 x5_1) != x1_1) = true := bne_iff_ne.mpr c5
            obtain rfl := Option.some.inj H
            have p128 : 0 ≤ (x5_1 : Int) := of_decide_eq_true (by first | (with_reducible assumption) | assumption)
            have q128 : x5_1 < (l0.length : Int) := of_decide_eq_true (by first | (with_reducible assumption) | assumption)
            obtain ⟨ad128, e128, hx128_0⟩ := Kd.at_int HR0.out x5_1 p128 q128
            cases e128
            replace p128 := eq_true p128
            replace q128 := eq_true q128
            go_wp2
            go_ret
            exact ⟨by first | rfl | (simp; done) | (simp [*]; done), by repeat (first | exact Drawn0.refl _ | apply Drawn0.step)⟩
        · rw [if_neg c4] at H
          exact absurd H (by simp)
      · rw [if_neg c3] at H
        have c3b0 : decide (x5_1 < (l0.length : Int)) = false := decide_eq_false c3
        clear c3
        obtain rfl := Option.some.inj H
        go_wp2
        go_ret
        exact ⟨by first | rfl | (simp; done) | (simp [*]; done), by repeat (first | exact Drawn0.refl _ | apply Drawn0.step)⟩

/-! ### laws_heldIntSS: function 17 -/
def laws_heldIntSS.l0 : Nat → List (List Int) → Int → Int → Option (Int)
  | 0, _, _, _ => none
  | k + 1, x0, x1, x5 => if x5 < (x0.length : Int) then (if 0 ≤ x5 then ((laws_heldIntS.f k (rd_L1 x0 x5) x1).bind fun t130 => (if t130 < 0 then (some (-1)) else (laws_heldIntSS.l0 k x0 t130 (wrap64 (x5 + 1))))) else (none)) else (some x1)
def laws_heldIntSS.f (k : Nat) (l0 : List (List Int)) (a1 : Int) : Option (Int) := laws_heldIntSS.l0 k l0 a1 0
theorem laws_heldIntSS.mono_l : ∀ k, (∀ y0 y1 y2, LeO (laws_heldIntSS.l0 k y0 y1 y2) (laws_heldIntSS.l0 (k + 1) y0 y1 y2))
  | 0 => fun _ _ _ r h => by simp [laws_heldIntSS.l0] at h
  | k + 1 => by
    have ih0 := laws_heldIntSS.mono_l k
    · intro y0 y1 y2
      unfold laws_heldIntSS.l0
      repeat' first
      | (with_reducible exact ih0 _ _ _)
      | (with_reducible exact laws_heldIntS.mono _ _ _)
      | (with_reducible exact LeO.refl _)
      | (with_reducible exact LeO.none _)
      | (with_reducible refine LeO.ite ?_ ?_)
      | (with_reducible refine LeO.bind ?_ (fun _ => ?_))
      | exact ih0 _ _ _
      | exact laws_heldIntS.mono _ _ _
      | exact LeO.none _
      | refine LeO.ite ?_ ?_
      | refine LeO.bind ?_ (fun _ => ?_)
theorem laws_heldIntSS.mono : ∀ a0 a1 k, LeO (laws_heldIntSS.f k a0 a1) (laws_heldIntSS.f (k + 1) a0 a1) := by
  intro a0 a1 k
  have ih0 := laws_heldIntSS.mono_l k
  unfold laws_heldIntSS.f
  repeat' first
      | (with_reducible exact ih0 _ _ _)
      | (with_reducible exact laws_heldIntS.mono _ _ _)
      | (with_reducible exact LeO.refl _)
      | (with_reducible exact LeO.none _)
      | (with_reducible refine LeO.ite ?_ ?_)
      | (with_reducible refine LeO.bind ?_ (fun _ => ?_))
      | exact ih0 _ _ _
      | exact laws_heldIntS.mono _ _ _
      | exact LeO.none _
      | refine LeO.ite ?_ ?_
      | refine LeO.bind ?_ (fun _ => ?_)
set_option maxHeartbeats 8000000 in
set_option maxRecDepth 100000 in
theorem laws_heldIntSS.calls (k : Nat) (A0 : Option Addr) (c0 : Nat) (l0 : List (List Int)) (a1 : Int) (r : Int) (w : World) (hr0 : Kd.C (Kd.slice 3 (Kd.int .i64)) w A0 l0.length l0) (hc0 : l0.length ≤ c0) (h : laws_heldIntSS.f k l0 a1 = some r) :
    Calls Try.prog 17 #[.slice A0 l0.length c0, .int .i64 a1] w fun e w' => e = .returned (.int .i64 r) ∧ Drawn0 w w' := by
  have HR0 := Aside0.mk hr0
  have HC0 := Aside0.mk hc0
  clear hr0 hc0
  have H : (laws_heldIntSS.l0 k l0 a1 0) = some r := h
  clear h
  have H' := Aside0.mk H
  clear H
  go_enter Try.func17, Try.ntmps17
  go_wp2
  go_loopg [1, 5] k (fun kq v1 v5 w' => ∃ (x1_1 : Int) (x5_1 : Int), v1 = .int .i64 x1_1 ∧ v5 = .int .i64 x5_1 ∧ Aside0 (laws_heldIntSS.l0 kq l0 x1_1 x5_1 = some r) ∧ Aside0 (kq ≤ k) ∧ Drawn0 w w')
  case atStart => exact ⟨(a1), (0), (by first | rfl | (simp; done) | (simp [*]; done)), (by first | rfl | (simp; done) | (simp [*]; done)), H', ⟨Nat.le_refl _⟩, by repeat (first | exact Drawn0.refl _ | apply Drawn0.step)⟩
  case round =>
    clear H'
    try clear c1
    try clear p2
    obtain ⟨x1_1, x5_1, rfl, rfl, HA, HK1, ⟨m1, rfl⟩⟩ := hrel
    cases gk with
    | zero => exact absurd HA.out (by simp [laws_heldIntSS.l0])
    | succ k1 =>
      have H := HA.out
      clear HA
      simp only [laws_heldIntSS.l0] at H
      by_cases c3 : x5_1 < (l0.length : Int)
      · rw [if_pos c3] at H
        have c3b0 : decide (x5_1 < (l0.length : Int)) = true := decide_eq_true c3
        clear c3
        by_cases c4 : 0 ≤ x5_1
        · rw [if_pos c4] at H
          have c4b0 : decide (0 ≤ x5_1) = true := decide_eq_true c4
          clear c4
          replace H := Option.bind_eq_some_iff.mp H
          obtain ⟨t130, A50, H⟩ := H
          replace H : (if t130 < 0 then (some (-1)) else (laws_heldIntSS.l0 k1 l0 t130 (wrap64 (x5_1 + 1)))) = some r := H
          have A5 := Aside0.mk A50
          clear A50
          by_cases c6 : t130 < 0
          · rw [if_pos c6] at H
            have c6b0 : decide (t130 < 0) = true := decide_eq_true c6
            clear c6
            obtain rfl := Option.some.inj H
            have p129 : 0 ≤ (x5_1 : Int) := of_decide_eq_true (by first | (with_reducible assumption) | assumption)
            have q129 : x5_1 < (l0.length : Int) := of_decide_eq_true (by first | (with_reducible assumption) | assumption)
            obtain ⟨ad129, A129_0, c129_0, e129, hx129_0, hl129_0, hi129_0⟩ := at_L1 HR0.out x5_1 p129 q129
            cases e129
            have HR129_0 := Aside0.mk hi129_0
            have HC129_0 := Aside0.mk hl129_0
            clear hi129_0 hl129_0
            replace p129 := eq_true p129
            replace q129 := eq_true q129
            go_wp2_with (first | ((with_reducible refine gate_callee (f := 39) rfl ?_); refine goesL_ (some 17) rfl rfl Try.func39 (by kernel_rfl) rfl #[.slice A129_0 (rd_L1 l0 x5_1).length c129_0, .int .i64 x1_1] rfl (by (try simp only [List.map_toArray, List.map_cons, List.map_nil]); first | done | rfl | (simp only [List.length_drop, List.length_take]; rfl) | (simp; done) | (refine congrArg Value.bool ?_; simp; done) | (refine congrArg (fun z_ => #[Value.bool z_]) ?_; simp; done)) ?_; (with_reducible refine (laws_heldIntS.calls k1 _ _ (rd_L1 l0 x5_1) x1_1 t130 _ ?side1 ?side2 A5.out).mono ?_); (case side1 => repeat (first | exact HR129_0.out | (with_reducible refine Kd.C_alloc ?_ _) | (with_reducible refine Kd.C_drewN ?_ _) | (with_reducible refine Kd.C_drew ?_))); (case side2 => exact HC129_0.out); rintro e w' ⟨rfl, ⟨nd, rfl⟩⟩; refine ⟨_, rfl, ?_⟩))
            go_ret
            exact ⟨by first | rfl | (simp; done) | (simp [*]; done), by repeat (first | exact Drawn0.refl _ | apply Drawn0.step)⟩
          · rw [if_neg c6] at H
            have c6b0 : decide (t130 < 0) = false := decide_eq_false c6
            clear c6
            have H' := Aside0.mk H
            clear H
            have p129 : 0 ≤ (x5_1 : Int) := of_decide_eq_true (by first | (with_reducible assumption) | assumption)
            have q129 : x5_1 < (l0.length : Int) := of_decide_eq_true (by first | (with_reducible assumption) | assumption)
            obtain ⟨ad129, A129_0, c129_0, e129, hx129_0, hl129_0, hi129_0⟩ := at_L1 HR0.out x5_1 p129 q129
            cases e129
            have HR129_0 := Aside0.mk hi129_0
            have HC129_0 := Aside0.mk hl129_0
            clear hi129_0 hl129_0
            replace p129 := eq_true p129
            replace q129 := eq_true q129
            go_wp2_with (first | ((with_reducible refine gate_callee (f := 39) rfl ?_); refine goesL_ (some 17) rfl rfl Try.func39 (by kernel_rfl) rfl #[.slice A129_0 (rd_L1 l0 x5_1).length c129_0, .int .i64 x1_1] rfl (by (try simp only [List.map_toArray, List.map_cons, List.map_nil]); first | done | rfl | (simp only [List.length_drop, List.length_take]; rfl) | (simp; done) | (refine congrArg Value.bool ?_; simp; done) | (refine congrArg (fun z_ => #[Value.bool z_]) ?_; simp; done)) ?_; (with_reducible refine (laws_heldIntS.calls k1 _ _ (rd_L1 l0 x5_1) x1_1 t130 _ ?side1 ?side2 A5.out).mono ?_); (case side1 => repeat (first | exact HR129_0.out | (with_reducible refine Kd.C_alloc ?_ _) | (with_reducible refine Kd.C_drewN ?_ _) | (with_reducible refine Kd.C_drew ?_))); (case side2 => exact HC129_0.out); rintro e w' ⟨rfl, ⟨nd, rfl⟩⟩; refine ⟨_, rfl, ?_⟩))
            go_roundg k1
            case measure => have := HK1.out; omega
            case rel => exact ⟨(t130), (wrap64 (x5_1 + 1)), (by first | rfl | (simp; done) | (simp [*]; done)), (by first | rfl | (simp; done) | (simp [*]; done)), H', ⟨by have := HK1.out; omega⟩, by repeat (first | exact Drawn0.refl _ | apply Drawn0.step)⟩
        · rw [if_neg c4] at H
          exact absurd H (by simp)
      · rw [if_neg c3] at H
        have c3b0 : decide (x5_1 < (l0.length : Int)) = false := decide_eq_false c3
        clear c3
        obtain rfl := Option.some.inj H
        go_wp2
        go_ret
        exact ⟨by first | rfl | (simp; done) | (simp [*]; done), by repeat (first | exact Drawn0.refl _ | apply Drawn0.step)⟩

/-! ### laws_FnExactBinaryTests: function 4 -/
namespace Aux
theorem w64 {x : Int} (h0 : -9223372036854775808 ≤ x) (h1 : x ≤ 9223372036854775807) : wrap64 x = x := by unfold wrap64; omega
theorem up64 {i n : Nat} (h : i < n) (hn : n ≤ 4611686018427387904) : wrap64 ((i : Int) + 1) = ((i + 1 : Nat) : Int) := by rw [w64 (by omega) (by omega)]; omega
theorem rd_lt {xs : List Int} {i : Nat} (h : i < xs.length) : rd xs (i : Int) = xs[i] := by unfold rd; simp [List.getD_eq_getElem?_getD, h]

theorem eqIntS_l0 (a b : List Int) (hl : a.length = b.length) (hn : a.length ≤ 4611686018427387904) : ∀ (d i k : Nat), i + d = a.length → d < k → laws_eqIntS.l0 k a b (i : Int) = some (decide (a.drop i = b.drop i))
  | 0, i, k, hi, hk => by
    obtain ⟨k, rfl⟩ : ∃ q, k = q + 1 := ⟨k - 1, by omega⟩
    simp only [laws_eqIntS.l0]
    rw [if_neg (by omega), List.drop_eq_nil_of_le (by omega), List.drop_eq_nil_of_le (by omega)]
    simp
  | d + 1, i, k, hi, hk => by
    obtain ⟨k, rfl⟩ : ∃ q, k = q + 1 := ⟨k - 1, by omega⟩
    have ih := eqIntS_l0 a b hl hn d (i + 1) k (by omega) (by omega)
    have ha : i < a.length := by omega
    have hb : i < b.length := by omega
    simp only [laws_eqIntS.l0]
    rw [if_pos (by omega), if_pos (by omega), if_pos (by omega), up64 ha hn, ih, rd_lt ha, rd_lt hb, List.drop_eq_getElem_cons ha, List.drop_eq_getElem_cons hb]
    by_cases e : a[i] = b[i]
    · rw [if_pos e, e]; simp only [List.cons.injEq, true_and]
    · rw [if_neg e]; simp only [List.cons.injEq, e, false_and, decide_false]
theorem eqIntS_f (a b : List Int) (hn : a.length ≤ 4611686018427387904) {k : Nat} (hk : a.length < k) : laws_eqIntS.f k a b = some (decide (a = b)) := by
  unfold laws_eqIntS.f
  by_cases h : a.length = b.length
  · rw [if_pos (by omega)]
    exact eqIntS_l0 a b h hn a.length 0 k (by omega) hk
  · rw [if_neg (by omega), decide_eq_false (fun e => h (by rw [e]))]

/-- The numbers a, a + 1, .. -/
def mk (a : Int) (n : Nat) : List Int := (List.range n).map (fun (j : Nat) => a + (j : Int))
theorem mk_len (a : Int) (n : Nat) : (mk a n).length = n := by simp [mk]
theorem mk_succ (a : Int) (n : Nat) : mk a (n + 1) = mk a n ++ [a + (n : Int)] := by simp [mk, List.range_succ]
theorem mk_rd (a : Int) {n i : Nat} (h : i < n) : rd (mk a n) (i : Int) = a + (i : Int) := by
  rw [rd_lt (by rw [mk_len]; exact h)]
  simp [mk]
theorem markIntS_l0 (l : List Int) (a : Int) (h0 : 0 ≤ a) (h1 : a ≤ 1000000000000) (hn : l.length ≤ 1000000000000) : ∀ (d i k : Nat), i + d = l.length → d < k → laws_markIntS.l0 k (mk a i ++ l.drop i) (a + (i : Int)) (i : Int) = some (a + (l.length : Int), mk a l.length)
  | 0, i, k, hi, hk => by
    obtain ⟨k, rfl⟩ : ∃ q, k = q + 1 := ⟨k - 1, by omega⟩
    have e : i = l.length := by omega
    subst e
    simp only [laws_markIntS.l0]
    rw [if_neg (by rw [List.length_append, mk_len, List.length_drop]; omega), List.drop_eq_nil_of_le (by omega), List.append_nil]
  | d + 1, i, k, hi, hk => by
    obtain ⟨k, rfl⟩ : ∃ q, k = q + 1 := ⟨k - 1, by omega⟩
    have ha : i < l.length := by omega
    have ih := markIntS_l0 l a h0 h1 hn d (i + 1) k (by omega) (by omega)
    simp only [laws_markIntS.l0]
    rw [if_pos (by rw [List.length_append, mk_len, List.length_drop]; omega), if_pos (by omega), up64 ha (by omega), w64 (x := a + (i : Int) + 1) (by omega) (by omega)]
    have he : (mk a i ++ l.drop i).set ((i : Nat) : Int).toNat (a + (i : Int)) = mk a (i + 1) ++ l.drop (i + 1) := by
      rw [List.set_append_right _ _ (by rw [mk_len]; omega), mk_len, mk_succ, List.drop_eq_getElem_cons ha]
      have e : ((i : Nat) : Int).toNat - i = 0 := by omega
      rw [e, List.set_cons_zero]
      simp only [List.append_assoc, List.singleton_append]
    rw [he, show a + (i : Int) + 1 = a + ((i + 1 : Nat) : Int) by omega]
    exact ih
theorem markIntS_f (l : List Int) (a : Int) (h0 : 0 ≤ a) (h1 : a ≤ 1000000000000) (hn : l.length ≤ 1000000000000) {k : Nat} (hk : l.length < k) : laws_markIntS.f k l a = some (a + (l.length : Int), mk a l.length) := by
  have h := markIntS_l0 l a h0 h1 hn l.length 0 k (by omega) hk
  unfold laws_markIntS.f
  simpa [mk] using h
theorem heldIntS_l0 (n : Nat) (a : Int) (h0 : 0 ≤ a) (h1 : a ≤ 1000000000000) (hn : n ≤ 1000000000000) : ∀ (d i k : Nat), i + d = n → d < k → laws_heldIntS.l0 k (mk a n) (a + (i : Int)) (i : Int) = some (a + (n : Int))
  | 0, i, k, hi, hk => by
    obtain ⟨k, rfl⟩ : ∃ q, k = q + 1 := ⟨k - 1, by omega⟩
    have e : i = n := by omega
    subst e
    simp only [laws_heldIntS.l0]
    rw [if_neg (by rw [mk_len]; omega)]
  | d + 1, i, k, hi, hk => by
    obtain ⟨k, rfl⟩ : ∃ q, k = q + 1 := ⟨k - 1, by omega⟩
    have ha : i < n := by omega
    have ih := heldIntS_l0 n a h0 h1 hn d (i + 1) k (by omega) (by omega)
    simp only [laws_heldIntS.l0]
    rw [if_pos (by rw [mk_len]; omega), if_pos (by omega), mk_rd a ha, if_pos rfl, up64 ha (by omega), w64 (x := a + (i : Int) + 1) (by omega) (by omega), show a + (i : Int) + 1 = a + ((i + 1 : Nat) : Int) by omega]
    exact ih
theorem heldIntS_f (n : Nat) (a : Int) (h0 : 0 ≤ a) (h1 : a ≤ 1000000000000) (hn : n ≤ 1000000000000) {k : Nat} (hk : n < k) : laws_heldIntS.f k (mk a n) a = some (a + (n : Int)) := by
  have h := heldIntS_l0 n a h0 h1 hn n 0 k (by omega) hk
  unfold laws_heldIntS.f
  simpa using h

/-- The length of all rows together. -/
def tot (l : List (List Int)) : Nat := (l.map List.length).sum
theorem tot_cons (x : List Int) (l : List (List Int)) : tot (x :: l) = x.length + tot l := by simp [tot]
theorem tot_append (a b : List (List Int)) : tot (a ++ b) = tot a + tot b := by simp [tot]
theorem tot_drop (l : List (List Int)) (i : Nat) (h : i < l.length) : tot (l.drop i) = (l[i]).length + tot (l.drop (i + 1)) := by
  rw [List.drop_eq_getElem_cons h, tot_cons]
theorem tot_drop_le (l : List (List Int)) : ∀ i, tot (l.drop i) ≤ tot l := by
  induction l with
  | nil => intro i; simp [tot]
  | cons x l ih =>
    intro i
    cases i with
    | zero => simp
    | succ i => rw [List.drop_succ_cons, tot_cons]; have := ih i; omega
theorem eqIntS_ev (l : List Int) (h : l.length ≤ 1000000000) : ∃ k, laws_eqIntS.f k l l = some true := ⟨l.length + 1, by rw [eqIntS_f l l (by omega) (by omega)]; simp⟩
theorem markIntS_ev (l : List Int) (a : Int) (h0 : 0 ≤ a) (h1 : a ≤ 1000000000) (h : l.length ≤ 1000000000) : ∃ k m L, a ≤ m ∧ m = a + (l.length : Int) ∧ L.length = l.length ∧ laws_markIntS.f k l a = some (m, L) ∧ laws_heldIntS.f k L a = some m :=
  ⟨l.length + 1, a + (l.length : Int), mk a l.length, by omega, rfl, mk_len _ _, markIntS_f l a h0 (by omega) (by omega) (by omega), heldIntS_f l.length a h0 (by omega) (by omega) (by omega)⟩

theorem eqIntSS_l0 (a : List (List Int)) (hn : a.length ≤ 1000000000) (ht : tot a ≤ 1000000000) : ∀ (d i k : Nat), i + d = a.length → d + 1000000001 < k → laws_eqIntSS.l0 k a a (i : Int) = some true
  | 0, i, k, hi, hk => by
    obtain ⟨k, rfl⟩ : ∃ q, k = q + 1 := ⟨k - 1, by omega⟩
    simp only [laws_eqIntSS.l0]
    rw [if_neg (by omega)]
  | d + 1, i, k, hi, hk => by
    obtain ⟨k, rfl⟩ : ∃ q, k = q + 1 := ⟨k - 1, by omega⟩
    have ih := eqIntSS_l0 a hn ht d (i + 1) k (by omega) (by omega)
    have ha : i < a.length := by omega
    have h1 := tot_drop a i ha
    have h2 := tot_drop_le a i
    have e : rd_L1 a (i : Int) = a[i] := by unfold rd_L1; simp [List.getD_eq_getElem?_getD, ha]
    simp only [laws_eqIntSS.l0]
    rw [if_pos (by omega), if_pos (by omega), if_pos (by omega), e, eqIntS_f _ _ (by omega) (by omega), up64 ha (by omega)]
    simpa using ih
theorem eqIntSS_ev (l : List (List Int)) (hn : l.length ≤ 1000000000) (ht : tot l ≤ 1000000000) : ∃ k, laws_eqIntSS.f k l l = some true := by
  refine ⟨3000000000, ?_⟩
  unfold laws_eqIntSS.f
  rw [if_pos rfl]
  exact eqIntSS_l0 l hn ht l.length 0 _ (by omega) (by omega)
/-- Rows that are numbered one behind the other. -/
def mkS : List (List Int) → Int → List (List Int)
  | [], _ => []
  | x :: l, a => mk a x.length :: mkS l (a + (x.length : Int))
theorem mkS_len (l : List (List Int)) : ∀ a, (mkS l a).length = l.length := by
  induction l with
  | nil => intro a; rfl
  | cons x l ih => intro a; simp [mkS, ih]
theorem mkS_tot (l : List (List Int)) : ∀ a, tot (mkS l a) = tot l := by
  induction l with
  | nil => intro a; rfl
  | cons x l ih => intro a; simp [mkS, ih, tot_cons, mk_len]
theorem markSS_l0 : ∀ (l pre : List (List Int)) (a : Int) (k : Nat), 0 ≤ a → a + (tot l : Int) ≤ 100000000000 → pre.length + l.length ≤ 1000000000 → tot l ≤ 1000000000 → l.length + 1000000001 < k → laws_markIntSS.l0 k (pre ++ l) a (pre.length : Int) = some (a + (tot l : Int), pre ++ mkS l a)
  | [], pre, a, k, h0, h1, h2, h3, hk => by
    obtain ⟨k, rfl⟩ : ∃ q, k = q + 1 := ⟨k - 1, by omega⟩
    simp only [laws_markIntSS.l0]
    rw [if_neg (by simp)]
    simp [tot, mkS]
  | x :: l, pre, a, k, h0, h1, h2, h3, hk => by
    obtain ⟨k, rfl⟩ : ∃ q, k = q + 1 := ⟨k - 1, by omega⟩
    rw [tot_cons] at h1 h3
    rw [List.length_cons] at h2 hk
    have ih := markSS_l0 l (pre ++ [mk a x.length]) (a + (x.length : Int)) k (by omega) (by omega) (by simp; omega) (by omega) (by omega)
    have e : (pre ++ x :: l).getD ((pre.length : Int)).toNat [] = x := by simp [List.getD_eq_getElem?_getD]
    have e2 : (pre ++ x :: l).set ((pre.length : Int)).toNat (mk a x.length) = (pre ++ [mk a x.length]) ++ l := by simp [List.set_append_right]
    simp only [laws_markIntSS.l0]
    rw [if_pos (by simp; omega), if_pos (by omega), e, markIntS_f x a h0 (by omega) (by omega) (by omega), Option.bind_some, e2, up64 (n := pre.length + 1) (by omega) (by omega)]
    rw [show (((pre.length + 1 : Nat)) : Int) = ((pre ++ [mk a x.length]).length : Int) by simp, ih]
    simp [tot_cons, mkS]
    omega
theorem heldSS_l0 (L : List (List Int)) : ∀ (l pre : List (List Int)) (a : Int) (k : Nat), L = pre ++ mkS l a → 0 ≤ a → a + (tot l : Int) ≤ 100000000000 → pre.length + l.length ≤ 1000000000 → tot l ≤ 1000000000 → l.length + 1000000001 < k → laws_heldIntSS.l0 k L a (pre.length : Int) = some (a + (tot l : Int))
  | [], pre, a, k, hL, h0, h1, h2, h3, hk => by
    obtain ⟨k, rfl⟩ : ∃ q, k = q + 1 := ⟨k - 1, by omega⟩
    simp only [laws_heldIntSS.l0]
    rw [if_neg (by rw [hL]; simp [mkS])]
    simp [tot]
  | x :: l, pre, a, k, hL, h0, h1, h2, h3, hk => by
    obtain ⟨k, rfl⟩ : ∃ q, k = q + 1 := ⟨k - 1, by omega⟩
    rw [tot_cons] at h1 h3
    rw [List.length_cons] at h2 hk
    have ih := heldSS_l0 L l (pre ++ [mk a x.length]) (a + (x.length : Int)) k (by rw [hL]; simp [mkS]) (by omega) (by omega) (by simp; omega) (by omega) (by omega)
    have e : rd_L1 L (pre.length : Int) = mk a x.length := by rw [hL]; unfold rd_L1; simp [mkS, List.getD_eq_getElem?_getD]
    have hlen : L.length = pre.length + (l.length + 1) := by rw [hL]; simp [mkS, mkS_len]
    simp only [laws_heldIntSS.l0]
    rw [if_pos (by omega), if_pos (by omega), e, heldIntS_f x.length a h0 (by omega) (by omega) (by omega), Option.bind_some, if_neg (by omega), up64 (n := pre.length + 1) (by omega) (by omega)]
    rw [show (((pre.length + 1 : Nat)) : Int) = ((pre ++ [mk a x.length]).length : Int) by simp, ih]
    simp [tot_cons]
    omega
theorem markIntSS_ev (l : List (List Int)) (a : Int) (h0 : 0 ≤ a) (h1 : a ≤ 1000000000) (hn : l.length ≤ 1000000000) (ht : tot l ≤ 1000000000) : ∃ k m L, a ≤ m ∧ m = a + (tot l : Int) ∧ L.length = l.length ∧ laws_markIntSS.f k l a = some (m, L) ∧ laws_heldIntSS.f k L a = some m :=
  ⟨3000000000, a + (tot l : Int), mkS l a, by omega, rfl, mkS_len _ _, markSS_l0 l [] a _ h0 (by omega) (by simpa using hn) ht (by omega), heldSS_l0 (mkS l a) l [] a _ rfl h0 (by omega) (by simpa using hn) ht (by omega)⟩

end Aux
def laws_FnExactBinaryTests.f (k : Nat) (a0 : Int) : Option Bool := (spec_BinaryTests.f k a0).bind fun s => (impl_BinaryTests.f k a0).bind fun g => if g = s ∧ s.1.length ≤ 1000000000 ∧ Aux.tot s.1 ≤ 1000000000 then some true else none
open Go.Proofs.YthkoignldhocgabW.Rng in
set_option maxHeartbeats 4000000 in
set_option maxRecDepth 100000 in
theorem laws_FnExactBinaryTests.calls (k : Nat) (a0 : Int) (r : Bool) (w : World)  (h : laws_FnExactBinaryTests.f k a0 = some r) :
    Calls Try.prog 4 #[.int .i64 a0] w fun e w' => e = .returned (.bool r) ∧ Below w.heap.size w w' := by
  have HB := Aside0.mk (Below.refl w.heap.size w)
  unfold laws_FnExactBinaryTests.f at h
  replace h := Option.bind_eq_some_iff.mp h
  obtain ⟨s, hs, h⟩ := h
  replace h := Option.bind_eq_some_iff.mp h
  obtain ⟨g, hg, h⟩ := h
  by_cases hgs_ : g = s ∧ s.1.length ≤ 1000000000 ∧ Aux.tot s.1 ≤ 1000000000
  case neg => rw [if_neg hgs_] at h; cases h
  rw [if_pos hgs_] at h
  obtain ⟨hgs, hbd⟩ := hgs_
  subst hgs
  obtain rfl := Option.some.inj h
  clear h
  obtain ⟨R0, R1⟩ := g
  dsimp only at hbd
  have SP := Aside0.mk hs
  have IM := Aside0.mk hg
  clear hs hg
  have eb1 : (R1 != R1) = false := by simp
  obtain ⟨keR, he_⟩ := Aux.eqIntSS_ev R0 hbd.1 hbd.2
  have EQR := Aside0.mk he_
  obtain ⟨kmR, mR, LR, mpR, meR, ml_, mk_, mh_⟩ := Aux.markIntSS_ev R0 1 (by omega) (by omega) hbd.1 hbd.2
  have MLR := Aside0.mk ml_
  have MKR := Aside0.mk mk_
  have MHR := Aside0.mk mh_
  have dm_ : decide (mR < 0) = false := decide_eq_false (by omega)
  have em_ : (mR != mR) = false := by simp
  clear ml_ mk_ mh_ he_
  clear meR mpR hbd
  go_enter Try.func4, Try.ntmps4
  go_wp2_with fail
  refine (spec_BinaryTests.calls k a0 R0 R1 _  SP.out).mono ?_
  rintro e_ w1 ⟨vrw, rfl, hv_, hb_⟩
  obtain ⟨Arw, crw, rfl⟩ := Kd.S_slice hv_
  have Orw := Aside0.mk (OS.made hv_ HB.out.size)
  have M0 := Aside0.mk hb_.size
  have n_ := Aside0.mk (below_step HB.out hb_); clear HB; have HB := n_; clear n_
  clear hb_ hv_
  go_wp2_with fail
  refine (impl_BinaryTests.calls k a0 R0 R1 _  IM.out).mono ?_
  rintro e_ w2 ⟨vrg, rfl, hv_, hb_⟩
  obtain ⟨Arg, crg, rfl⟩ := Kd.S_slice hv_
  have Org := Aside0.mk (OS.made hv_ HB.out.size)
  have M1 := Aside0.mk hb_.size
  have n_ := Aside0.mk (below_step HB.out hb_); clear HB; have HB := n_; clear n_
  have n_ := Aside0.mk (Orw.out.below hb_); clear Orw; have Orw := n_; clear n_
  clear hb_ hv_
  go_wp2_with fail
  refine (laws_eqIntSS.calls keR Arg crg R0 Arw crw R0 _ _ (Kd.S_reads' Org.out.row).2.2 (Kd.S_reads' Org.out.row).2.1 (Kd.S_reads' Orw.out.row).2.2 (Kd.S_reads' Orw.out.row).2.1 EQR.out).mono ?_
  rintro e_ w3 ⟨rfl, hd_⟩
  have hb_ := (by first | exact hd_ | exact drawn_below hd_ : Below w2.heap.size w2 w3)
  have M2 := Aside0.mk hb_.size
  have n_ := Aside0.mk (below_step HB.out hb_); clear HB; have HB := n_; clear n_
  have n_ := Aside0.mk (Orw.out.below hb_); clear Orw; have Orw := n_; clear n_
  have n_ := Aside0.mk (Org.out.below hb_); clear Org; have Org := n_; clear n_
  clear hb_ hd_
  go_wp2_with fail
  refine (laws_markIntSS.calls kmR (Bt w1.heap.size w2.heap.size) (.slice Arg R0.length crg) R0 1 mR LR w w3 HB.out Org.out.row MKR.out).mono ?_
  rintro e_ w4 ⟨rfl, hy_, hb_, hk_⟩
  have M3 := Aside0.mk hk_.1
  have n_ := Aside0.mk (Orw.out.kept hk_ (fun k_ h1_ h2_ => by have := M0.out; have := M1.out; have := M2.out; have := M3.out;  unfold Bt at h1_ h2_; omega)); clear Orw; have Orw := n_; clear n_
  have n_ := Aside0.mk (OS.back Org.out hk_ hy_); clear Org; have Org := n_; clear n_
  have n_ := Aside0.mk hb_; clear HB; have HB := n_; clear n_ hb_ hy_ hk_
  have q_ := laws_heldIntSS.calls _ Arg crg LR 1 mR w4 (by have z_ := (Kd.S_reads' Org.out.row).2.2; have y_ := (Kd.S_reads' Org.out.row).1; exact z_) (by rw [MLR.out]; exact (Kd.S_reads' Org.out.row).2.1) MHR.out
  rw [MLR.out] at q_
  go_wp2_with fail
  refine (q_).mono ?_
  rintro e_ w5 ⟨rfl, hd_⟩
  have hb_ := (by first | exact hd_ | exact drawn_below hd_ : Below w4.heap.size w4 w5)
  have M4 := Aside0.mk hb_.size
  have n_ := Aside0.mk (below_step HB.out hb_); clear HB; have HB := n_; clear n_
  have n_ := Aside0.mk (Orw.out.below hb_); clear Orw; have Orw := n_; clear n_
  have n_ := Aside0.mk (Org.out.below hb_); clear Org; have Org := n_; clear n_
  clear hb_ hd_
  clear q_
  go_wp2_with fail
  refine (impl_BinaryTests.calls k a0 R0 R1 _  IM.out).mono ?_
  rintro e_ w6 ⟨vrh, rfl, hv_, hb_⟩
  obtain ⟨Arh, crh, rfl⟩ := Kd.S_slice hv_
  have Orh := Aside0.mk (OS.made hv_ HB.out.size)
  have M5 := Aside0.mk hb_.size
  have n_ := Aside0.mk (below_step HB.out hb_); clear HB; have HB := n_; clear n_
  have n_ := Aside0.mk (Orw.out.below hb_); clear Orw; have Orw := n_; clear n_
  have n_ := Aside0.mk (Org.out.below hb_); clear Org; have Org := n_; clear n_
  clear hb_ hv_
  go_wp2_with fail
  refine (laws_eqIntSS.calls keR Arh crh R0 Arw crw R0 _ _ (Kd.S_reads' Orh.out.row).2.2 (Kd.S_reads' Orh.out.row).2.1 (Kd.S_reads' Orw.out.row).2.2 (Kd.S_reads' Orw.out.row).2.1 EQR.out).mono ?_
  rintro e_ w7 ⟨rfl, hd_⟩
  have hb_ := (by first | exact hd_ | exact drawn_below hd_ : Below w6.heap.size w6 w7)
  have M6 := Aside0.mk hb_.size
  have n_ := Aside0.mk (below_step HB.out hb_); clear HB; have HB := n_; clear n_
  have n_ := Aside0.mk (Orw.out.below hb_); clear Orw; have Orw := n_; clear n_
  have n_ := Aside0.mk (Org.out.below hb_); clear Org; have Org := n_; clear n_
  have n_ := Aside0.mk (Orh.out.below hb_); clear Orh; have Orh := n_; clear n_
  clear hb_ hd_
  have q_ := laws_heldIntSS.calls _ Arg crg LR 1 mR w7 (by have z_ := (Kd.S_reads' Org.out.row).2.2; have y_ := (Kd.S_reads' Org.out.row).1; exact z_) (by rw [MLR.out]; exact (Kd.S_reads' Org.out.row).2.1) MHR.out
  rw [MLR.out] at q_
  go_wp2_with fail
  refine (q_).mono ?_
  rintro e_ w8 ⟨rfl, hd_⟩
  have hb_ := (by first | exact hd_ | exact drawn_below hd_ : Below w7.heap.size w7 w8)
  have M7 := Aside0.mk hb_.size
  have n_ := Aside0.mk (below_step HB.out hb_); clear HB; have HB := n_; clear n_
  have n_ := Aside0.mk (Orw.out.below hb_); clear Orw; have Orw := n_; clear n_
  have n_ := Aside0.mk (Org.out.below hb_); clear Org; have Org := n_; clear n_
  have n_ := Aside0.mk (Orh.out.below hb_); clear Orh; have Orh := n_; clear n_
  clear hb_ hd_
  clear q_
  go_wp2
  go_ret
  exact ⟨rfl, HB.out⟩

end Go.Proofs.Ythkoignldhocgab.PFnExactBinaryTests
