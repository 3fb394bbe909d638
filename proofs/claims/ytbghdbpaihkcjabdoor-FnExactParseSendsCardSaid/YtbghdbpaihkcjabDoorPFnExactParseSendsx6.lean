-- Written by a program of this claim, over the kit's print: the functions that a law reaches, their plain forms and the walks.
import Derived.Test.YtbghdbpaihkcjabDoorPFnExactParseSendsx0
import Derived.Test.YtbghdbpaihkcjabDoorPFnExactParseSendsx3
import Derived.Test.YtbghdbpaihkcjabDoorPFnExactParseSendsx4
import Derived.Test.YtbghdbpaihkcjabDoorPFnExactParseSendsx5
namespace Go.Proofs.YtbghdbpaihkcjabDoor.PFnExactParseSends
open Go.RowKit Go.Proofs.YtbghdbpaihkcjabDoorW.PrintWords Go.Proofs.YtbghdbpaihkcjabDoorW.PrintLast Go.Proofs.YtbghdbpaihkcjabDoorW.PrintMore
attribute [local go_sem] max2_int min2_int max_two min_two max_three min_three max_four min_four   -- for this text's walks alone
set_option linter.unusedVariables false
set_option linter.unusedSimpArgs false

/-! ### slices_Chunk_int_int: function 45 -/
theorem slices_Chunk_int_int.op_in {o : Oper} (hd : ∀ c, o.op ≠ .defer c) {a : Act} {w : World} {K : Act → World → Prop} {Q : Exit → Act → World → Prop} (l n : Nat) (h : Oper.wp Tryd.prog o a w K Q) : Oper.wpIn (Fence.wide.inRound l) n Tryd.prog o a w K Q := by
  refine ⟨fun _ _ => trivial, ?_⟩
  rw [Oper.semAt_eq _ _ _ hd]
  unfold Oper.wp at h
  generalize (execOp a.eval o).run Tryd.prog w = r at h ⊢
  cases r with
  | ok x w' =>
    cases x with
    | value v => exact h
    | skip => exact h
    | defer d => exact h
    | enter f args => exact ⟨fun e => absurd e (by simp [Fence.wide]), CallsIn.inRound l (callsIn_wide.2 h)⟩
    | row r args => exact ⟨fun e => absurd e (by simp [Fence.wide]), fun c cs _ => let ⟨v, w', r, s⟩ := h c cs; ⟨v, w', r, by rw [fenced_inRound]; exact stepsIn_wide.2 s⟩⟩
    | _ => exact h.elim
  | halt x w' => cases x <;> first | exact h | exact h.elim
theorem slices_Chunk_int_int.any_in {ops : Array Oper} {Q : Exit → Act → World → Prop} (hd : ∀ (i : Nat) (o : Oper), ops[i]? = some o → ∀ c, o.op ≠ .defer c) (hq : ¬ LetsOut Q) (l n : Nat) (md : Region.Mode) : ∀ (fuel : Nat) (listed : Array Bool) (a : Act) (w : World), wpAny Tryd.prog md ops Q fuel listed a w → wpAnyIn (Fence.wide.inRound l) n Tryd.prog md ops Q fuel listed a w
  | 0, _, _, _, h => h
  | fuel + 1, listed, a, w, h => by
    refine ⟨h.1, fun i hi => ?_⟩
    have h2 := h.2 i hi
    unfold wpOp at h2
    unfold wpOpIn
    cases ho : ops[i]? with
    | none =>
      simp only [ho] at h2 ⊢
      exact slices_Chunk_int_int.any_in hd hq l n md fuel _ a w h2
    | some o =>
      simp only [ho] at h2 ⊢
      split
      · rename_i hw
        rw [if_pos hw] at h2
        rcases h2 with h2 | h2
        · exact slices_Chunk_int_int.op_in (hd i o ho) l n (Oper.wp_mono (fun a' w' h' => slices_Chunk_int_int.any_in hd hq l n md fuel _ a' w' h') h2)
        · exact absurd h2.2 hq
      · rename_i hw
        rw [if_neg hw] at h2
        exact ⟨fun _ _ => trivial, slices_Chunk_int_int.any_in hd hq l n md fuel _ _ w h2⟩
theorem slices_Chunk_int_int.region_in {id : Nat} {ops : Array Oper} {Q : Exit → Act → World → Prop} {a : Act} {w : World} {S : World → Prop} (hd : (ops.all fun o => match o.op with | .defer _ => false | _ => true) = true) (hq : ¬ LetsOut Q) (l n : Nat) (hm : Tryd.prog.follows .mixedOrders = true)
    (h : wpAnyH Tryd.prog .any ops Q S ops.size (Array.replicate ops.size false) a w.drew) : (Code.region id ops true).wpIn (Fence.wide.inRound l) n Tryd.prog Q a w := by
  refine wpIn_region_any hm (slices_Chunk_int_int.any_in (fun i o ho c e => ?_) hq l n .any _ _ _ _ (wpAny_of_held _ _ _ _ h))
  have := Array.all_eq_true_iff_forall_mem.1 hd o (Array.mem_of_getElem? ho)
  simp [e] at this
/-- What the rounds leave as it is: the two variables of the iterator. -/
def slices_Chunk_int_int.Kp (Bs Bn : Nat) (A B : World) : Prop := B.cell? ⟨Bs, 0, none⟩ = A.cell? ⟨Bs, 0, none⟩ ∧ B.cell? ⟨Bn, 0, none⟩ = A.cell? ⟨Bn, 0, none⟩
section
attribute [local go_sem] Oper.semAt_some
set_option maxRecDepth 100000 in
set_option maxHeartbeats 2000000 in
theorem slices_Chunk_int_int.each_in (n : Nat) (hn : 1 ≤ n) (l Bs Bn m cap : Nat) (ad : Addr) (hcap : 3 * m ≤ cap) (hm : m ≤ 1000000) (J Jx : List (Fin m) → World → Prop) (hJd : ∀ pre A j, J pre A → J pre (A.drewN j))
    (hY : ∀ pre x W, J pre W → pre.length < m → YieldAt Fence.wide (n - 1) Tryd.prog l #[.slice (some (ad.add (3 * x.1))) 3 3] W fun e W' =>
      (e = .returned (.bool true) ∧ J (pre ++ [x]) W' ∧ slices_Chunk_int_int.Kp Bs Bn W W') ∨ (e = .returned (.bool false) ∧ Jx (pre ++ [x]) W'))
    (W : World) (hBs : W.cell? ⟨Bs, 0, none⟩ = some (.slice (some ad) (3 * m) cap)) (hBn : W.cell? ⟨Bn, 0, none⟩ = some (.int .i64 3)) (h0 : J [] W) :
    CallsIn Fence.wide n Tryd.prog 66 #[.func (.yield l) #[] #[], .pointer (some ⟨Bs, 0, none⟩), .pointer (some ⟨Bn, 0, none⟩)] W fun e W' => (∃ v, e = .returned v) ∧
      ((∃ ys, ys = List.finRange m ∧ J ys W') ∨ (∃ pre, pre <+: List.finRange m ∧ Jx pre W')) := by
  refine callsIn_of_wp Tryd.func66 rfl trivial ?_ rfl
  simp only [Tryd.ntmps66, List.size_toArray, List.length_cons, List.length_nil, Nat.reduceAdd, Nat.reduceSub, Array.replicate_succ, Array.replicate_zero, List.push_toArray, List.append_toArray, List.nil_append, List.cons_append]
  gi_wp2
  gi_loopw [4] (fun i wr => ∃ k : Nat, k ≤ m ∧ i = .int .i64 ((3 * k : Nat) : Int) ∧ J ((List.finRange m).take k) wr ∧ wr.cell? ⟨Bs, 0, none⟩ = some (.slice (some ad) (3 * m) cap) ∧ wr.cell? ⟨Bn, 0, none⟩ = some (.int .i64 3))
    (fun i _ => 3 * m + 1 - (intOf i).toNat)
  case atStart => exact ⟨0, Nat.zero_le _, rfl, h0, hBs, hBn⟩
  case round =>
    obtain ⟨k, hk, rfl, hJs, h1, h2⟩ := hrel
    by_cases hlt : k < m
    · have d1 : decide (((3 * k : Nat) : Int) < ((3 * m : Nat) : Int)) = true := decide_eq_true (by omega)
      have d2 : (((3 * k : Nat) : Int) < ((3 * m : Nat) : Int)) = True := eq_true (by omega)
      have w3 : wrap64 (((3 * k : Nat) : Int) + 3) = ((3 * (k + 1) : Nat) : Int) := by unfold wrap64; omega
      have b1 : (0 : Int) ≤ ((3 * k : Nat) : Int) := by omega
      have b2 : ((3 * k : Nat) : Int) ≤ ((3 * m : Nat) : Int) := by omega
      have b3 : ((3 * k : Nat) : Int) ≤ ((cap : Nat) : Int) := by omega
      gi_wp2
      refine wpIn_wide.2 ?_
      go_quiet (fail)
      obtain ⟨w2, hw2⟩ : ∃ w2, w2 = wr.drewN nq := ⟨_, rfl⟩
      have hJ2 : J ((List.finRange m).take k) w2 := by rw [hw2]; exact hJd _ _ _ hJs
      have h12 : w2.cell? ⟨Bs, 0, none⟩ = some (.slice (some ad) (3 * m) cap) := by rw [hw2]; exact h1
      have h22 : w2.cell? ⟨Bn, 0, none⟩ = some (.int .i64 3) := by rw [hw2]; exact h2
      rw [← hw2]
      clear h1 h2 hJs hw2
      obtain ⟨fn, tmps, assign, body, hy, hR⟩ := hY _ ⟨k, hlt⟩ w2 hJ2 (by rw [List.length_take, List.length_finRange]; omega)
      dsimp only at hy
      have b4 : wrap64 (3 * (k : Int) + 3) = 3 * (k : Int) + 3 := by unfold wrap64; omega
      have b5 : (3 * (k : Int) ≤ 3 * (k : Int) + 3) = True := eq_true (by omega)
      have b6 : (3 * (k : Int) + 3 ≤ 3 * (m : Int)) = True := eq_true (by omega)
      have b7 : (3 * (k : Int) + 3 ≤ (cap : Int)) = True := eq_true (by omega)
      gi_wp2
      refine hR.mono ?_
      have htk : (List.finRange m).take (k + 1) = (List.finRange m).take k ++ [⟨k, hlt⟩] := by
        rw [List.take_succ_eq_append_getElem (by rw [List.length_finRange]; exact hlt)]
        simp
      rintro e W3 (⟨rfl, hJ3, hk3⟩ | ⟨rfl, hJx3⟩)
      · have h13 := hk3.1.trans h12
        have h23 := hk3.2.trans h22
        clear hk3 h12 h22
        gi_wp2
        go_roundw
        case rel => exact ⟨k + 1, by omega, by first | rfl | (congr 1; omega) | (simp; omega), by rw [htk]; exact hJ3, h13, h23⟩
        case measure => simp [intOf]; omega
      · gi_wp2
        refine bodyPost_ret (results_none rfl _ _ _) rfl ?_
        exact ⟨⟨_, rfl⟩, .inr ⟨_, by rw [← htk]; exact List.take_prefix _ _, hJx3⟩⟩
    · obtain rfl : k = m := by omega
      gi_wp2
      go_end0
      exact ⟨⟨_, rfl⟩, .inl ⟨_, by rw [List.take_of_length_le (by rw [List.length_finRange]; omega)], hJs⟩⟩
set_option maxRecDepth 100000 in
set_option maxHeartbeats 1000000 in
theorem slices_Chunk_int_int.none_in (n : Nat) (l Bs Bn c : Nat) (a : Option Addr) (J : List (Fin 0) → World → Prop) (W : World) (hBs : W.cell? ⟨Bs, 0, none⟩ = some (.slice a 0 c)) (h0 : J [] W) :
    CallsIn Fence.wide n Tryd.prog 66 #[.func (.yield l) #[] #[], .pointer (some ⟨Bs, 0, none⟩), .pointer (some ⟨Bn, 0, none⟩)] W fun e W' => (∃ v, e = .returned v) ∧ J [] W' := by
  refine callsIn_of_wp Tryd.func66 rfl trivial ?_ rfl
  simp only [Tryd.ntmps66, List.size_toArray, List.length_cons, List.length_nil, Nat.reduceAdd, Nat.reduceSub, Array.replicate_succ, Array.replicate_zero, List.push_toArray, List.append_toArray, List.nil_append, List.cons_append]
  gi_wp2
  gi_loopw [4] (fun i wr => i = .int .i64 0 ∧ J [] wr ∧ wr.cell? ⟨Bs, 0, none⟩ = some (.slice a 0 c)) (fun _ _ => 0)
  case atStart => exact ⟨rfl, h0, hBs⟩
  case round =>
    obtain ⟨rfl, hJs, h1⟩ := hrel
    gi_wp2
    go_end0
    exact ⟨⟨_, rfl⟩, hJs⟩
set_option maxHeartbeats 1000000 in
theorem slices_Chunk_int_int.chunk (a : Option Addr) (len cap : Nat) (w : World) :
    Calls Tryd.prog 45 #[.slice a len cap, .int .i64 3] w fun e w' => ∃ Bs Bn, e = .returned (.func (.func 66) #[] #[.pointer (some ⟨Bs, 0, none⟩), .pointer (some ⟨Bn, 0, none⟩)]) ∧ Boxed w' Bs 43 (.slice a len cap) ∧ Boxed w' Bn 3 (.int .i64 3) ∧ w.heap.size ≤ Bs ∧ w.heap.size ≤ Bn ∧ Below w.heap.size w w' := by
  have c1 : Boxed ((w.alloc (.cells #[.slice a len cap] 43)).alloc (.cells #[.int .i64 3] 3)) w.heap.size 43 (.slice a len cap) := (Boxed.new w _ _).alloc _
  have c2 : Boxed ((w.alloc (.cells #[.slice a len cap] 43)).alloc (.cells #[.int .i64 3] 3)) (w.heap.size + 1) 3 (.int .i64 3) := by
    have h := Boxed.new (w.alloc (.cells #[.slice a len cap] 43)) 3 (.int .i64 3)
    rw [show (w.alloc (.cells #[.slice a len cap] 43)).heap.size = w.heap.size + 1 by simp] at h
    exact h
  have b2 : Below w.heap.size w ((w.alloc (.cells #[.slice a len cap] 43)).alloc (.cells #[.int .i64 3] 3)) := ((Below.refl _ w).alloc (Nat.le_refl _) _).alloc (by simp) _
  go_enter Tryd.func45, Tryd.ntmps45
  go_wp2
  go_ret
  exact ⟨_, _, rfl, c1, c2, Nat.le_refl _, by omega, b2⟩
theorem slices_Chunk_int_int.stops (n : Nat) (hn : 1 ≤ n) (Bs Bn m cap : Nat) (a : Option Addr) (hcap : 3 * m ≤ cap) (hm : m ≤ 1000000) (ha : 0 < m → a.isSome = true) (w : World) (hBs : w.cell? ⟨Bs, 0, none⟩ = some (.slice a (3 * m) cap)) (hBn : w.cell? ⟨Bn, 0, none⟩ = some (.int .i64 3)) :
    SeqStopsK Fence.wide n Tryd.prog 66 #[.pointer (some ⟨Bs, 0, none⟩), .pointer (some ⟨Bn, 0, none⟩)] (fun x : Fin m => #[Value.slice (a.map fun ad => ad.add (3 * x.1)) 3 3]) (slices_Chunk_int_int.Kp Bs Bn) (fun ys => ys = List.finRange m) (fun pre => pre <+: List.finRange m) m w := fun l J Jx W hW hJ hJx hY h0 => by
  have h1 := (hW.cell (p := ⟨Bs, 0, none⟩) (World.block_lt_of_cell? w _ hBs)).trans hBs
  have h2 := (hW.cell (p := ⟨Bn, 0, none⟩) (World.block_lt_of_cell? w _ hBn)).trans hBn
  cases a with
  | none =>
    obtain rfl : m = 0 := by
      rcases Nat.eq_zero_or_pos m with h | h
      · exact h
      · exact absurd (ha h) (by simp)
    exact (slices_Chunk_int_int.none_in n l Bs Bn cap none J W h1 h0).mono fun e W' ⟨he, hj⟩ => ⟨he, .inl ⟨_, rfl, hj⟩⟩
  | some ad =>
    refine (slices_Chunk_int_int.each_in n hn l Bs Bn m cap ad hcap hm J Jx (fun pre A j hj => hJ pre A _ none hj ⟨rfl, rfl, rfl, Nat.le_refl _, fun _ _ _ => rfl⟩ (fun r e => by cases e)) hY W h1 h2 h0).mono ?_
    rintro e W' ⟨he, ⟨ys, rfl, hj⟩ | ⟨pre, hp, hj⟩⟩
    · exact ⟨he, .inl ⟨_, rfl, hj⟩⟩
    · exact ⟨he, .inr ⟨_, hp, hj⟩⟩
end


/-! ### impl_ParseSends: function 22 -/
-- impl_numbers slices_Chunk_int_int impl_areTold impl_sendsText
/-- The sends that numbers are, three by three. -/
def impl_ParseSends.sends : List Int → List (S51)
  | a :: b :: c :: r => ⟨a, b, c⟩ :: impl_ParseSends.sends r
  | _ => []
def impl_ParseSends.f (k : Nat) (s : ByteArray) : Option (List (S51) × Bool) := if s.size ≤ 1048576 then (impl_numbers.f s 60).bind fun t => if t.1.length ≤ 1048577 then (if t.2 = true ∧ t.1.length % 3 = 0 then ((impl_areTold.f (impl_ParseSends.sends t.1)).bind fun b => if b = true then ((impl_sendsText.f k (impl_ParseSends.sends t.1)).bind fun x => if x.toList = s.toList then some (impl_ParseSends.sends t.1, true) else some ([], false)) else some ([], false)) else some ([], false)) else none else none
theorem impl_ParseSends.mono : ∀ a0 k, LeO (impl_ParseSends.f k a0) (impl_ParseSends.f (k + 1) a0) := fun a0 k => LeO.ite (LeO.bind (LeO.refl _) (fun _ => LeO.ite (LeO.ite (LeO.bind (LeO.refl _) (fun _ => LeO.ite (LeO.bind (impl_sendsText.mono _ _) (fun _ => LeO.refl _)) (LeO.refl _))) (LeO.refl _)) (LeO.none _))) (LeO.none _)
theorem impl_ParseSends.sends_len : ∀ l : List Int, (impl_ParseSends.sends l).length = l.length / 3
  | a :: b :: c :: r => by rw [impl_ParseSends.sends, List.length_cons, impl_ParseSends.sends_len r]; simp only [List.length_cons]; omega
  | [] => rfl
  | [_] => by simp [impl_ParseSends.sends]
  | [_, _] => by simp [impl_ParseSends.sends]
/-- The j-th send. -/
def impl_ParseSends.send (l : List Int) (j : Nat) : S51 := ⟨l.getD (3 * j) 0, l.getD (3 * j + 1) 0, l.getD (3 * j + 2) 0⟩
theorem impl_ParseSends.sends_get : ∀ (l : List Int) (j : Nat), j < l.length / 3 → (impl_ParseSends.sends l)[j]? = some (impl_ParseSends.send l j)
  | a :: b :: c :: r, 0, _ => by simp [impl_ParseSends.sends, impl_ParseSends.send]
  | a :: b :: c :: r, j + 1, h => by
    have h2 : j < r.length / 3 := by simp only [List.length_cons] at h; omega
    rw [impl_ParseSends.sends, List.getElem?_cons_succ, impl_ParseSends.sends_get r j h2]
    simp only [impl_ParseSends.send, show 3 * (j + 1) = 3 * j + 2 + 1 by omega, show 3 * j + 2 + 1 + 1 = (3 * j + 1) + 2 + 1 by omega, show 3 * j + 2 + 1 + 2 = (3 * j + 2) + 2 + 1 by omega, List.getD_cons_succ]
  | [], j, h => by simp at h
  | [_], j, h => by simp at h
  | [_, _], j, h => by simp at h
theorem impl_ParseSends.sends_fin (l : List Int) (m : Nat) (h : l.length = 3 * m) : impl_ParseSends.sends l = (List.finRange m).map fun x => impl_ParseSends.send l x.1 := by
  apply List.ext_getElem?
  intro j
  by_cases hj : j < m
  · rw [impl_ParseSends.sends_get l j (by omega), List.getElem?_map, List.getElem?_eq_getElem (by rw [List.length_finRange]; exact hj)]
    simp
  · rw [List.getElem?_eq_none (by rw [impl_ParseSends.sends_len]; omega), List.getElem?_eq_none (by simp; omega)]
theorem impl_ParseSends.box_kept {X Y : World} {row : Option Nat} {B t : Nat} {v : Value} (hv : Boxed X B t v) (hg : X.grownBy Y row) (hrow : ∀ r, row = some r → ∃ o : Obj, X.heap[r]? = some o ∧ o.isCells = false) : Boxed Y B t v :=
  hv.kept hg (fun e' => by
    obtain ⟨o, ho, hc⟩ := hrow B e'.symm
    rw [show X.heap[B]? = _ from hv] at ho
    cases ho
    cases hc)
theorem impl_ParseSends.row_kept {α : Type} {d : Kd α} {X Y : World} {row : Option Nat} {e base : Nat} {ok : Nat → Prop} {v : Value} {xs : List α} (h : d.R e X base ok v xs) (hg : X.grownBy Y row) (hrow : ∀ r, row = some r → ∃ o : Obj, X.heap[r]? = some o ∧ o.isCells = false) : d.R e Y base ok v xs :=
  Kd.R_mono (Kd.R_step (Kd.R_bound h) (fun k hk hlt => hg.block k hlt (fun e' => by
    obtain ⟨o, ho, hc⟩ := hrow k e'.symm
    obtain ⟨q, _, cells, hcell⟩ := hk.2.2.2
    rw [hcell] at ho
    cases ho
    cases hc))) (fun _ hk => hk.1)
/-- What holds between two rounds. -/
def impl_ParseSends.I (w : World) (L : List Int) (m B Bs Bn c : Nat) (a : Option Addr) (pre : List (Fin m)) (W : World) : Prop :=
  ((∃ v, Boxed W B 32 v ∧ Kd.R k51 51 W w.heap.size (fun _ => True) v (pre.map fun x => impl_ParseSends.send L x.1)) ∧ (Boxed W Bs 43 (.slice a (3 * m) c) ∧ Boxed W Bn 3 (.int .i64 3)) ∧ Kd.R (Kd.int .i64) 3 W w.heap.size (fun _ => True) (.slice a L.length c) L) ∧ Below w.heap.size w W
theorem impl_ParseSends.I_own (w : World) (L : List Int) (m B Bs Bn c : Nat) (a : Option Addr) (n : Nat) (hn : w.heap.size ≤ n) : OwnFrom n (impl_ParseSends.I w L m B Bs Bn c a) :=
  OwnFrom.and (Own.from (fun s X Y row ⟨⟨v, hv, hr⟩, ⟨h1, h2⟩, h3⟩ hg hrow => ⟨⟨v, impl_ParseSends.box_kept hv hg hrow, impl_ParseSends.row_kept hr hg hrow⟩, ⟨impl_ParseSends.box_kept h1 hg hrow, impl_ParseSends.box_kept h2 hg hrow⟩, impl_ParseSends.row_kept h3 hg hrow⟩) _) (ownFrom_below (Nat.le_refl _) hn)
theorem impl_ParseSends.list_cell {W : World} {n0 n c : Nat} {ok : Nat → Prop} {ad : Addr} {L : List Int} (h : Kd.R (Kd.int .i64) 3 W n0 ok (.slice (some ad) n c) L) (i : Nat) (hi : i < L.length) : W.cell? (ad.add i) = some (.int .i64 (L.getD i 0)) := by
  obtain ⟨_, _, C⟩ := Kd.R_reads' h
  obtain ⟨ad', cs, hA, hl, hK, hcc⟩ := Kd.C_get C (0 : Int) (i : Int) (by omega) (by omega)
  obtain rfl : ad = ad' := Option.some.inj hA
  obtain rfl : cs = [.int .i64 (L.getD (i : Int).toNat 0)] := hK
  have h := hcc 0 _ rfl
  have e : (i : Int).toNat * (Kd.int .i64).sz + 0 = i := by simp [Kd.int, Kd.scalar]
  rw [e] at h
  exact h
/-- What the three cells of a round hold. -/
def impl_ParseSends.S3 (a : Addr) (y0 y1 y2 : Int) (W : World) : Prop := W.cell? a = some (.int .i64 y0) ∧ W.cell? ⟨a.block, a.off + 1, none⟩ = some (.int .i64 y1) ∧ W.cell? ⟨a.block, a.off + 2, none⟩ = some (.int .i64 y2)
theorem impl_ParseSends.S3_of {W : World} {n0 n c : Nat} {ok : Nat → Prop} {ad : Addr} {L : List Int} (h : Kd.R (Kd.int .i64) 3 W n0 ok (.slice (some ad) n c) L) (j : Nat) (hj : 3 * j + 2 < L.length) : impl_ParseSends.S3 (ad.add (3 * j)) (L.getD (3 * j) 0) (L.getD (3 * j + 1) 0) (L.getD (3 * j + 2) 0) W :=
  ⟨impl_ParseSends.list_cell h _ (by omega), by
    have h1 := impl_ParseSends.list_cell h (3 * j + 1) (by omega)
    rw [← add_add] at h1
    exact h1, by
    have h1 := impl_ParseSends.list_cell h (3 * j + 2) (by omega)
    rw [← add_add] at h1
    exact h1⟩
theorem impl_ParseSends.round_out (w W W1 w5 : World) (L : List Int) (m B Bs Bn c n : Nat) (ad : Addr) (pre : List (Fin m)) (x : Fin m) (v v1 : Value) (y : S51)
    (hW1 : W1 = W.drew) (hbs : Boxed W Bs 43 (.slice (some ad) (3 * m) c)) (hbn : Boxed W Bn 3 (.int .i64 3))
    (hr1 : Kd.R k51 51 W1 w.heap.size (fun _ => True) v (pre.map fun x => impl_ParseSends.send L x.1))
    (hg5 : W1.grownBy w5 v.ownBlock) (hv5 : Boxed w5 B 32 v)
    (hbs5 : Boxed w5 Bs 43 (.slice (some ad) (3 * m) c)) (hbn5 : Boxed w5 Bn 3 (.int .i64 3))
    (hr5 : Kd.R k51 51 w5 w.heap.size (fun _ => True) v1 ((pre.map fun x => impl_ParseSends.send L x.1) ++ [y]))
    (hl5 : Kd.R (Kd.int .i64) 3 w5 w.heap.size (fun _ => True) (.slice (some ad) L.length c) L) (hb5 : Below w.heap.size w w5)
    (hB : w.heap.size < B) (hne : B < Bs ∧ B < Bn) (hy : y = impl_ParseSends.send L x.1) :
    KeepsFrom n W (w5.setCell ⟨B, 0, none⟩ v1) ∧ slices_Chunk_int_int.Kp Bs Bn W (w5.setCell ⟨B, 0, none⟩ v1) ∧ impl_ParseSends.I w L m B Bs Bn c (some ad) (pre ++ [x]) (w5.setCell ⟨B, 0, none⟩ v1) := by
  have g6 := grownBy_setCell' w5 B v1
  have hbs6 := hbs5.kept g6 (by intro e; injection e with e; omega)
  have hbn6 := hbn5.kept g6 (by intro e; injection e with e; omega)
  refine ⟨?_, ⟨hbs6.cell.trans hbs.cell.symm, hbn6.cell.trans hbn.cell.symm⟩, ⟨⟨_, hv5.set _, ?_⟩, ⟨hbs6, hbn6⟩, ?_⟩, ?_⟩
  · subst hW1
    refine (((KeepsOthers.drew W).trans (KeepsOthers.of_grownBy hg5 ?_)).trans (KeepsOthers.setCell _ _ _)).from _
    intro j o hj ho
    obtain ⟨cells, hc⟩ := Kd.R_typed hr1 j hj
    rw [hc] at ho
    cases ho
    rfl
  · rw [List.map_append, List.map_singleton, ← hy]
    exact Kd.R_set hr5 hv5 (by decide) 0 v1
  · exact Kd.R_set hl5 hv5 (by decide) 0 v1
  · exact hb5.setCell (p := ⟨B, 0, none⟩) (Nat.le_of_lt hB) _
section
attribute [local go_sem] Oper.semAt_some
set_option maxHeartbeats 4000000 in
set_option maxRecDepth 100000 in
theorem impl_ParseSends.calls (k : Nat) (s : ByteArray) (r1 : List (S51)) (r2 : Bool) (w : World) (hG : impl_number.G w) (h : impl_ParseSends.f k s = some (r1, r2)) : Calls Tryd.prog 22 #[.string s] w fun e w' => ∃ v0_ : Value, e = .returned (.tuple #[v0_, .bool r2]) ∧ Kd.R k51 51 w' w.heap.size (fun _ => True) v0_ r1 ∧ Below w.heap.size w w' := by
  have HG := Aside0.mk hG
  clear hG
  unfold impl_ParseSends.f at h
  split at h
  case isFalse => cases h
  rename_i hs
  obtain ⟨⟨L, ok⟩, hn, h⟩ := Option.bind_eq_some_iff.mp h
  have HN := Aside0.mk hn
  have HH := Aside0.mk h
  clear hn h
  refine (callsIn_wide (n := 9)).1 ?_
  refine callsIn_of_wp_marks Tryd.func22 rfl trivial ?_ rfl
  simp only [Tryd.ntmps22, List.size_toArray, List.length_cons, List.length_nil, Nat.reduceAdd, Nat.reduceSub, Array.replicate_succ, Array.replicate_zero, List.push_toArray, List.append_toArray, List.nil_append, List.cons_append]
  gi_wp2_with fail
  refine ⟨trivial, ?_⟩
  refine (callsIn_wide.2 (impl_numbers.calls s 60 L ok w HG.out HN.out)).mono ?_
  rintro e w1 ⟨v, rfl, hR, hb⟩
  obtain ⟨a, c, rfl⟩ := Kd.R_slice hR
  have R1 := Aside0.mk hR
  have B1 := Aside0.mk hb
  clear hR hb HN
  have h := HH.out
  split at h
  case isFalse => cases h
  rename_i hLn
  have HL := Aside0.mk hLn
  clear hLn HH
  by_cases hok : ok = true ∧ L.length % 3 = 0
  · rw [if_pos hok] at h
    obtain ⟨rfl, hm3⟩ := hok
    have HH := Aside0.mk h
    clear h
    obtain ⟨m, hm⟩ : ∃ m, L.length = 3 * m := ⟨L.length / 3, by omega⟩
    have t1 : (L.length : Int) % 3 = 0 := by omega
    clear hm3
    obtain ⟨W0, hW0⟩ : ∃ W0, W0 = (w1.alloc (.cells #[] 51)).alloc (.cells #[.slice (some ⟨w1.heap.size, 0, none⟩) 0 0] 32) := ⟨_, rfl⟩
    obtain ⟨B, hB⟩ : ∃ B, B = w1.heap.size + 1 := ⟨_, rfl⟩
    have V0 : Boxed W0 B 32 (.slice (some ⟨w1.heap.size, 0, none⟩) 0 0) := by
      have h := Boxed.new (w1.alloc (.cells #[] 51)) 32 (.slice (some ⟨w1.heap.size, 0, none⟩) 0 0)
      rw [show (w1.alloc (.cells #[] 51)).heap.size = w1.heap.size + 1 by simp] at h
      rw [hW0, hB]
      exact h
    have O0 : Kd.R k51 51 W0 w.heap.size (fun _ => True) (.slice (some ⟨w1.heap.size, 0, none⟩) 0 0) [] := by
      rw [hW0]
      exact Kd.R_alloc ⟨fun _ _ => trivial, [], ⟨rfl, .inr ⟨w1.heap.size, 0, #[], rfl, B1.out.size, heap_alloc_new w1 _, by simp, by simp, by simp, by simp⟩⟩, Reps.none _ _⟩ _
    have L0 : Kd.R (Kd.int .i64) 3 W0 w.heap.size (fun _ => True) (.slice a L.length c) L := by rw [hW0]; exact Kd.R_alloc (Kd.R_alloc R1.out _) _
    have B0 : Below w.heap.size w W0 := by rw [hW0]; exact (B1.out.alloc B1.out.size _).alloc (by have := B1.out.size; simp; omega) _
    have HB := Aside0.mk (show w.heap.size < B by rw [hB]; have := B1.out.size; omega)
    have HV0 := Aside0.mk V0
    have HO0 := Aside0.mk O0
    have HL0 := Aside0.mk L0
    have HB0 := Aside0.mk B0
    clear V0 O0 L0 B0 R1 B1
    gi_wp2_with fail
    rw [← hW0]
    rw [← hB]
    clear hW0 hB
    generalize (Value.slice (some ⟨w1.heap.size, 0, none⟩) 0 0) = v0 at HV0 HO0 ⊢
    refine ⟨trivial, ?_⟩
    refine (callsIn_wide.2 (slices_Chunk_int_int.chunk a (3 * m) c W0)).mono ?_
    rintro e w2 ⟨Bs, Bn, rfl, hbs, hbn, hle1, hle2, hb2⟩
    have HV2 := Aside0.mk (show Boxed w2 B 32 v0 from (hb2.block B HV0.out.lt).trans HV0.out)
    have HO2 := Aside0.mk (Kd.R_below HO0.out hb2)
    have HL2 := Aside0.mk (Kd.R_below HL0.out hb2)
    have HB2 := Aside0.mk (below_step HB0.out hb2)
    have HNE := Aside0.mk (show B < Bs ∧ B < Bn from ⟨Nat.lt_of_lt_of_le HV0.out.lt hle1, Nat.lt_of_lt_of_le HV0.out.lt hle2⟩)
    have HBS := Aside0.mk hbs
    have HBN := Aside0.mk hbn
    clear hbs hbn hle1 hle2 hb2 HV0 HO0 HL0 HB0
    gi_wp2
    refine' wpIn_rangeFunc_ownG (α := Fin m) rfl (by omega) (gf := 66) (lb := #[.pointer (some ⟨Bs, 0, none⟩), .pointer (some ⟨Bn, 0, none⟩)]) rfl trivial (enters_of Tryd.func66 (by kernel_rfl) rfl)
      (slices_Chunk_int_int.stops (9 - 1) (by omega) Bs Bn m c a ?hcap (by have := HL.out; omega) ?ha w2 HBS.out.cell HBN.out.cell)
      (fun h k => ⟨k.1.trans h.1, k.2.trans h.2⟩) ?kb (Below.refl _ _) (fun _ => rfl)
      (impl_ParseSends.I w L m B Bs Bn c a) (fun _ _ _ => False) (impl_ParseSends.I_own w L m B Bs Bn c a _ HB2.out.size) (fun _ _ _ _ _ hs _ _ => hs)
      ⟨⟨⟨_, HV2.out, HO2.out⟩, ⟨HBS.out, HBN.out⟩, HL2.out⟩, HB2.out⟩ _ ?assign ?body ?done ?stop
    case hcap => have := (Kd.R_reads' HL2.out).2.1; omega
    case ha =>
      intro h0
      obtain ⟨g, cap, e, _⟩ := Kd.R_form HL2.out (by omega)
      injection e with e1
      rw [e1]
      rfl
    case kb =>
      intro W l o o' hl _ _ _
      have h1 := HBS.out.lt
      have h2 := HBN.out.lt
      exact ⟨World.cell?_of_block (World.putObj_heap_other (show Bs ≠ l by omega)), World.cell?_of_block (World.putObj_heap_other (show Bn ≠ l by omega))⟩
    case assign =>
      intro l x W K hK
      gi_wp2
      exact hK
    case body =>
      rintro l pre x W ⟨⟨⟨v, hv, hr⟩, ⟨hbs, hbn⟩, hl⟩, hb⟩ hlt
      have hx3 : 3 * x.1 + 2 < L.length := by have := x.2; omega
      cases a with
      | none =>
        obtain ⟨g, cap, e, _⟩ := Kd.R_form hl (by omega)
        cases e
      | some ad =>
        refine wpIn_block ?_
        simp only [Option.map_some]
        obtain ⟨W1, hW1⟩ : ∃ W1, W1 = W.drew := ⟨_, rfl⟩
        have hv1 : Boxed W1 B 32 v := by rw [hW1]; exact hv
        have hr1 : Kd.R k51 51 W1 w.heap.size (fun _ => True) v (pre.map fun x => impl_ParseSends.send L x.1) := by rw [hW1]; exact Kd.R_drew hr
        have hl1 : Kd.R (Kd.int .i64) 3 W1 w.heap.size (fun _ => True) (.slice (some ad) L.length c) L := by rw [hW1]; exact Kd.R_drew hl
        have hb1 : Below w.heap.size w W1 := by rw [hW1]; exact below_step hb (below_drew (Below.refl _ _))
        have hS := impl_ParseSends.S3_of hl1 x.1 hx3
        refine slices_Chunk_int_int.region_in (S := impl_ParseSends.S3 (ad.add (3 * x.1)) (L.getD (3 * x.1) 0) (L.getD (3 * x.1 + 1) 0) (L.getD (3 * x.1 + 2) 0)) (by kernel_rfl) (by rintro ⟨_, _, h⟩; exact h) l _ (by kernel_rfl) ?_
        rw [← hW1]
        generalize hy0 : L.getD (3 * x.1) 0 = y0 at hS ⊢
        generalize hy1 : L.getD (3 * x.1 + 1) 0 = y1 at hS ⊢
        generalize hy2 : L.getD (3 * x.1 + 2) 0 = y2 at hS ⊢
        obtain ⟨ad2, had2⟩ : ∃ ad2, ad2 = ad.add (3 * x.1) := ⟨_, rfl⟩
        rw [← had2] at hS ⊢
        have HAD := Aside0.mk had2
        have HX3 := Aside0.mk hx3
        have HW1 := Aside0.mk hW1
        have HY := Aside0.mk (⟨hy0, hy1, hy2⟩ : _ ∧ _ ∧ _)
        clear had2 hy0 hy1 hy2 hx3 hW1
        simp only [List.size_toArray, List.length_cons, List.length_nil, Nat.reduceAdd, Array.replicate_succ, Array.replicate_zero, List.push_toArray, List.append_toArray, List.nil_append, List.cons_append]
        refine' wpAnyH_take (i := 1) (v := _) (by rw [List.getElem?_toArray]; rfl) (by kernel_rfl) (by kernel_rfl) (by kernel_rfl) (fun _ _ _ h => h) (Or.inl ⟨by rfl, ?hy1⟩) hS ?next1
        case hy1 => intro w' hSw; obtain ⟨hSw0, hSw1, hSw2⟩ := hSw; go_simp; try with_reducible rfl
        simp only [Act.put, List.setIfInBounds_toArray, List.set_cons_zero, List.set_cons_succ]
        refine' wpAnyH_take (i := 2) (v := _) (by rw [List.getElem?_toArray]; rfl) (by kernel_rfl) (by kernel_rfl) (by kernel_rfl) (fun _ _ _ h => h) (Or.inl ⟨by rfl, ?hy2⟩) hS ?next2
        case hy2 => intro w' hSw; obtain ⟨hSw0, hSw1, hSw2⟩ := hSw; go_simp; try with_reducible rfl
        simp only [Act.put, List.setIfInBounds_toArray, List.set_cons_zero, List.set_cons_succ]
        refine' wpAnyH_take (i := 3) (v := _) (by rw [List.getElem?_toArray]; rfl) (by kernel_rfl) (by kernel_rfl) (by kernel_rfl) (fun _ _ _ h => h) (Or.inl ⟨by rfl, ?hy3⟩) hS ?next3
        case hy3 => intro w' hSw; obtain ⟨hSw0, hSw1, hSw2⟩ := hSw; go_simp; try with_reducible rfl
        simp only [Act.put, List.setIfInBounds_toArray, List.set_cons_zero, List.set_cons_succ]
        refine' wpAnyH_take (i := 4) (v := _) (by rw [List.getElem?_toArray]; rfl) (by kernel_rfl) (by kernel_rfl) (by kernel_rfl) (fun _ _ _ h => h) (Or.inl ⟨by rfl, ?hy4⟩) hS ?next4
        case hy4 => intro w' hSw; obtain ⟨hSw0, hSw1, hSw2⟩ := hSw; go_simp; try with_reducible rfl
        simp only [Act.put, List.setIfInBounds_toArray, List.set_cons_zero, List.set_cons_succ]
        refine' wpAnyH_take (i := 5) (v := _) (by rw [List.getElem?_toArray]; rfl) (by kernel_rfl) (by kernel_rfl) (by kernel_rfl) (fun _ _ _ h => h) (Or.inl ⟨by rfl, ?hy5⟩) hS ?next5
        case hy5 => intro w' hSw; obtain ⟨hSw0, hSw1, hSw2⟩ := hSw; go_simp; try with_reducible rfl
        simp only [Act.put, List.setIfInBounds_toArray, List.set_cons_zero, List.set_cons_succ]
        refine' wpAnyH_take (i := 6) (v := _) (by rw [List.getElem?_toArray]; rfl) (by kernel_rfl) (by kernel_rfl) (by kernel_rfl) (fun _ _ _ h => h) (Or.inl ⟨by rfl, ?hy6⟩) hS ?next6
        case hy6 => intro w' hSw; obtain ⟨hSw0, hSw1, hSw2⟩ := hSw; go_simp; try with_reducible rfl
        simp only [Act.put, List.setIfInBounds_toArray, List.set_cons_zero, List.set_cons_succ]
        refine' wpAnyH_take (i := 7) (v := _) (by rw [List.getElem?_toArray]; rfl) (by kernel_rfl) (by kernel_rfl) (by kernel_rfl) (fun _ _ _ h => h) (Or.inl ⟨by rfl, ?hy7⟩) hS ?next7
        case hy7 => intro w' hSw; obtain ⟨hSw0, hSw1, hSw2⟩ := hSw; go_simp; try with_reducible rfl
        simp only [Act.put, List.setIfInBounds_toArray, List.set_cons_zero, List.set_cons_succ]
        refine' wpAnyH_take (i := 8) (v := _) (by rw [List.getElem?_toArray]; rfl) (by kernel_rfl) (by kernel_rfl) (by kernel_rfl) (fun _ _ _ h => h) (Or.inl ⟨by rfl, ?hy8⟩) hS ?next8
        case hy8 => intro w' hSw; obtain ⟨hSw0, hSw1, hSw2⟩ := hSw; go_simp; try with_reducible rfl
        simp only [Act.put, List.setIfInBounds_toArray, List.set_cons_zero, List.set_cons_succ]
        refine' wpAnyH_take (i := 9) (v := _) (by rw [List.getElem?_toArray]; rfl) (by kernel_rfl) (by kernel_rfl) (by kernel_rfl) (fun _ _ _ h => h) (Or.inl ⟨by rfl, ?hy9⟩) hS ?next9
        case hy9 => intro w' hSw; obtain ⟨hSw0, hSw1, hSw2⟩ := hSw; go_simp; try with_reducible rfl
        simp only [Act.put, List.setIfInBounds_toArray, List.set_cons_zero, List.set_cons_succ]
        refine' wpAnyH_take (i := 10) (v := _) (by rw [List.getElem?_toArray]; rfl) (by kernel_rfl) (by kernel_rfl) (by kernel_rfl) (fun _ _ _ h => h) (Or.inl ⟨by rfl, ?hy10⟩) hS ?next10
        case hy10 => intro w' hSw; obtain ⟨hSw0, hSw1, hSw2⟩ := hSw; go_simp; try with_reducible rfl
        simp only [Act.put, List.setIfInBounds_toArray, List.set_cons_zero, List.set_cons_succ]
        have hbs1 : Boxed W1 Bs 43 (.slice (some ad) (3 * m) c) := by rw [HW1.out]; exact hbs
        have hbn1 : Boxed W1 Bn 3 (.int .i64 3) := by rw [HW1.out]; exact hbn
        have hcB := hv1.cell
        have hcB2 := (hv1.alloc (.cells #[.int .i64 y0, .int .i64 y1, .int .i64 y2] 51)).cell
        have SA : impl_ParseSends.S3 ad2 y0 y1 y2 (W1.alloc (.cells #[.int .i64 y0, .int .i64 y1, .int .i64 y2] 51)) := ⟨(World.cell?_alloc_some _ _ _ (by rw [hS.1]; rfl)).trans hS.1, (World.cell?_alloc_some _ _ _ (by rw [hS.2.1]; rfl)).trans hS.2.1, (World.cell?_alloc_some _ _ _ (by rw [hS.2.2]; rfl)).trans hS.2.2⟩
        refine wpAnyH_ready (rs := [0, 11]) (by kernel_rfl) (by simp) ?_
        refine AllReadyH.cons (by rw [List.getElem?_toArray]; rfl) (fun K hK => ?_) (AllReadyH.cons (by rw [List.getElem?_toArray]; rfl) (fun K hK => ?_) AllReadyH.nil)
        · go_simp
          refine hK.out _ _ hS (fun _ => ?_)
          clear hK K
          simp only [Act.put, List.setIfInBounds_toArray, List.set_cons_zero, List.set_cons_succ]
          refine wpAnyH_ready (rs := [11]) (by kernel_rfl) (by simp) ?_
          refine AllReadyH.cons (by rw [List.getElem?_toArray]; rfl) (fun K hK => ?_) AllReadyH.nil
          go_simp
          refine hK.out _ _ SA (fun _ => ?_)
          clear hK K
          simp only [Act.put, List.setIfInBounds_toArray, List.set_cons_zero, List.set_cons_succ]
          refine wpAnyH_ready (rs := [12]) (by kernel_rfl) (by simp) ?_
          refine AllReadyH.cons (by rw [List.getElem?_toArray]; rfl) (fun K hK => ?_) AllReadyH.nil
          refine Kd.R_append_step k51 (w0 := w) w.heap.size (by rfl) (.tmp 25) (.tmp 36) 32 51 (.agg #[(.int .i64 0), (.int .i64 0), (.int .i64 0)]) 24 rfl Tryd.underlying32 info51 rfl (by decide) (by decide) v (pre.map fun x => impl_ParseSends.send L x.1) (⟨y0, y1, y2⟩ : S51) [.int .i64 y0, .int .i64 y1, .int .i64 y2] (fun _ => True) (fun _ => False) rfl rfl (k51_mkM _ _ _ _) (fun _ hk => hk.elim) (fun _ _ => trivial) hr1 hb1 hb1.size (by have := HL.out; rw [List.length_map]; omega) ?_
          intro v1 w5 hr5 hb5 hg5 hat5
          have hv5 : Boxed w5 B 32 v := hv1.kept hg5 (Kd.R_ne hr1 hv1 (by decide))
          have hbs5 := hbs1.kept hg5 (Kd.R_ne hr1 hbs1 (by decide))
          have hbn5 := hbn1.kept hg5 (Kd.R_ne hr1 hbn1 (by decide))
          have hl5 := Kd.R_over hl1 hr1 (by intro q hq; simp [Kd.int, Kd.scalar] at hq; omega) hg5
          have S5 : impl_ParseSends.S3 ad2 y0 y1 y2 w5 := by
            have h := impl_ParseSends.S3_of hl5 x.1 HX3.out
            rw [HY.out.1, HY.out.2.1, HY.out.2.2, ← HAD.out] at h
            exact h
          refine hK.out _ _ S5 (fun _ => ?_)
          clear hK K
          obtain ⟨A5, c5, rfl⟩ := Kd.R_slice hr5
          rw [show ((pre.map fun x => impl_ParseSends.send L x.1) ++ [(⟨y0, y1, y2⟩ : S51)]).length = pre.length + 1 by simp] at hr5
          simp only [Act.put, List.setIfInBounds_toArray, List.set_cons_zero, List.set_cons_succ]
          have hc5 := hv5.cell
          have hf5 := hv5.frozen
          have HR5 := Aside0.mk hr5
          have HB5 := Aside0.mk hb5
          have HG5 := Aside0.mk hg5
          have HL5 := Aside0.mk hl5
          have HV5 := Aside0.mk hv5
          have HBS5 := Aside0.mk hbs5
          have HBN5 := Aside0.mk hbn5
          clear hr5 hb5 hg5 hl5 hv5 hbs5 hbn5 hat5
          refine wpAnyH_ready (rs := [13]) (by kernel_rfl) (by simp) ?_
          refine AllReadyH.cons (by rw [List.getElem?_toArray]; rfl) (fun K hK => ?_) AllReadyH.nil
          go_simp
          have S6 : impl_ParseSends.S3 ad2 y0 y1 y2 (w5.setCell ⟨B, 0, none⟩ (.slice A5 (pre.length + 1) c5)) := by
            have h := impl_ParseSends.S3_of (Kd.R_set HL5.out HV5.out (by decide) 0 (.slice A5 (pre.length + 1) c5)) x.1 HX3.out
            rw [HY.out.1, HY.out.2.1, HY.out.2.2, ← HAD.out] at h
            exact h
          refine hK.out _ _ S6 (fun _ => ?_)
          clear hK K
          refine wpAnyH_done (by kernel_rfl) ?_ _
          exact impl_ParseSends.round_out w W W1 w5 L m B Bs Bn c _ ad pre x v _ _ HW1.out hbs hbn hr1 HG5.out HV5.out HBS5.out HBN5.out HR5.out HL5.out HB5.out HB.out HNE.out (by rw [impl_ParseSends.send, HY.out.1, HY.out.2.1, HY.out.2.2])
        · go_simp
          refine hK.out _ _ SA (fun _ => ?_)
          clear hK K
          simp only [Act.put, List.setIfInBounds_toArray, List.set_cons_zero, List.set_cons_succ]
          refine wpAnyH_ready (rs := [0]) (by kernel_rfl) (by simp) ?_
          refine AllReadyH.cons (by rw [List.getElem?_toArray]; rfl) (fun K hK => ?_) AllReadyH.nil
          go_simp
          refine hK.out _ _ SA (fun _ => ?_)
          clear hK K
          simp only [Act.put, List.setIfInBounds_toArray, List.set_cons_zero, List.set_cons_succ]
          refine wpAnyH_ready (rs := [12]) (by kernel_rfl) (by simp) ?_
          refine AllReadyH.cons (by rw [List.getElem?_toArray]; rfl) (fun K hK => ?_) AllReadyH.nil
          refine Kd.R_append_step k51 (w0 := w) w.heap.size (by rfl) (.tmp 25) (.tmp 36) 32 51 (.agg #[(.int .i64 0), (.int .i64 0), (.int .i64 0)]) 24 rfl Tryd.underlying32 info51 rfl (by decide) (by decide) v (pre.map fun x => impl_ParseSends.send L x.1) (⟨y0, y1, y2⟩ : S51) [.int .i64 y0, .int .i64 y1, .int .i64 y2] (fun _ => True) (fun _ => False) rfl rfl (k51_mkM _ _ _ _) (fun _ hk => hk.elim) (fun _ _ => trivial) hr1 hb1 hb1.size (by have := HL.out; rw [List.length_map]; omega) ?_
          intro v1 w5 hr5 hb5 hg5 hat5
          have hv5 : Boxed w5 B 32 v := hv1.kept hg5 (Kd.R_ne hr1 hv1 (by decide))
          have hbs5 := hbs1.kept hg5 (Kd.R_ne hr1 hbs1 (by decide))
          have hbn5 := hbn1.kept hg5 (Kd.R_ne hr1 hbn1 (by decide))
          have hl5 := Kd.R_over hl1 hr1 (by intro q hq; simp [Kd.int, Kd.scalar] at hq; omega) hg5
          have S5 : impl_ParseSends.S3 ad2 y0 y1 y2 w5 := by
            have h := impl_ParseSends.S3_of hl5 x.1 HX3.out
            rw [HY.out.1, HY.out.2.1, HY.out.2.2, ← HAD.out] at h
            exact h
          refine hK.out _ _ S5 (fun _ => ?_)
          clear hK K
          obtain ⟨A5, c5, rfl⟩ := Kd.R_slice hr5
          rw [show ((pre.map fun x => impl_ParseSends.send L x.1) ++ [(⟨y0, y1, y2⟩ : S51)]).length = pre.length + 1 by simp] at hr5
          simp only [Act.put, List.setIfInBounds_toArray, List.set_cons_zero, List.set_cons_succ]
          have hc5 := hv5.cell
          have hf5 := hv5.frozen
          have HR5 := Aside0.mk hr5
          have HB5 := Aside0.mk hb5
          have HG5 := Aside0.mk hg5
          have HL5 := Aside0.mk hl5
          have HV5 := Aside0.mk hv5
          have HBS5 := Aside0.mk hbs5
          have HBN5 := Aside0.mk hbn5
          clear hr5 hb5 hg5 hl5 hv5 hbs5 hbn5 hat5
          refine wpAnyH_ready (rs := [13]) (by kernel_rfl) (by simp) ?_
          refine AllReadyH.cons (by rw [List.getElem?_toArray]; rfl) (fun K hK => ?_) AllReadyH.nil
          go_simp
          have S6 : impl_ParseSends.S3 ad2 y0 y1 y2 (w5.setCell ⟨B, 0, none⟩ (.slice A5 (pre.length + 1) c5)) := by
            have h := impl_ParseSends.S3_of (Kd.R_set HL5.out HV5.out (by decide) 0 (.slice A5 (pre.length + 1) c5)) x.1 HX3.out
            rw [HY.out.1, HY.out.2.1, HY.out.2.2, ← HAD.out] at h
            exact h
          refine hK.out _ _ S6 (fun _ => ?_)
          clear hK K
          refine wpAnyH_done (by kernel_rfl) ?_ _
          exact impl_ParseSends.round_out w W W1 w5 L m B Bs Bn c _ ad pre x v _ _ HW1.out hbs hbn hr1 HG5.out HV5.out HBS5.out HBN5.out HR5.out HL5.out HB5.out HB.out HNE.out (by rw [impl_ParseSends.send, HY.out.1, HY.out.2.1, HY.out.2.2])
    case done =>
      rintro D xs W hD rfl ⟨⟨⟨v, hv, hr⟩, _, _⟩, hb⟩ hK
      have h := HH.out
      rw [← impl_ParseSends.sends_fin L m hm] at hr
      generalize impl_ParseSends.sends L = S at hr h
      obtain ⟨A, c', rfl⟩ := Kd.R_slice hr
      obtain ⟨b, hbb, h⟩ := Option.bind_eq_some_iff.mp h
      have HT := Aside0.mk hbb
      have HQ := Aside0.mk h
      have HR := Aside0.mk hr
      have HK := Aside0.mk hK
      have HV := Aside0.mk hv
      have HBB := Aside0.mk hb
      have HC := Aside0.mk (Kd.R_reads' hr).2.2
      have HCC := Aside0.mk (Kd.R_reads' hr).2.1
      have hc := hv.cell
      clear h hbb hr hK hv hb HH
      gi_wp2_with fail
      refine ⟨trivial, ?_⟩
      refine (callsIn_wide.2 (impl_areTold.calls A c' _ b W HC.out HCC.out HT.out)).mono ?_
      rintro e w4 ⟨rfl, hb4⟩
      have HR4 := Aside0.mk (Kd.R_below HR.out hb4)
      have HK4 := Aside0.mk ((hb4.block D (Array.getElem?_eq_some_iff.1 HK.out).1).trans HK.out)
      have hv4 : Boxed w4 B 32 _ := (hb4.block B HV.out.lt).trans HV.out
      have HV4 := Aside0.mk hv4
      have HBB4 := Aside0.mk (below_step HBB.out hb4)
      have HC4 := Aside0.mk (Kd.C_below HC.out hb4)
      have hc4 := hv4.cell
      have h2 := HQ.out
      clear hb4 hc hv4 HR HK HV HBB HC HQ HT
      cases b with
      | false =>
        rw [if_neg (show ¬ (false = true) by decide)] at h2
        obtain ⟨rfl, rfl⟩ := Prod.mk.inj (Option.some.inj h2)
        clear h2
        gi_wp2
        refine ⟨trivial, ?_⟩
        gi_wp2
        refine ⟨by simp, .inl ⟨_, _, rfl, run_takeDeferred HK4.out, ?_⟩⟩
        exact ⟨_, results_tmp2 rfl _ _ _, _, rfl, Kd.R_nil _ _ _ _ _, HBB4.out.trans (belowK_b (w := w) (Nat.le_refl _) _ D _ _ (by have := HB2.out.size; omega) HK4.out rfl rfl)⟩
      | true =>
        rw [if_pos (show true = true from rfl)] at h2
        obtain ⟨x, hx, h2⟩ := Option.bind_eq_some_iff.mp h2
        have HX := Aside0.mk hx
        clear hx
        gi_wp2_with fail
        refine ⟨trivial, ?_⟩
        refine (callsIn_wide.2 (impl_sendsText.calls k A c' S x w4 HC4.out HCC.out HX.out)).mono ?_
        rintro e w6 ⟨rfl, hb6⟩
        have HR6 := Aside0.mk (Kd.R_below HR4.out hb6)
        have HK6 := Aside0.mk ((hb6.block D (Array.getElem?_eq_some_iff.1 HK4.out).1).trans HK4.out)
        have hv6 : Boxed w6 B 32 _ := (hb6.block B HV4.out.lt).trans HV4.out
        have HBB6 := Aside0.mk (below_step HBB4.out hb6)
        have hc6 := hv6.cell
        clear hb6 hc4 hv6 HR4 HK4 HV4 HBB4 HC4
        by_cases hq : x.toList = s.toList
        · have q1 : (x.toList == s.toList) = true := beq_iff_eq.mpr hq
          have q2 : (x.toList != s.toList) = false := bne_eq_false_iff_eq.mpr hq
          rw [if_pos hq] at h2
          obtain ⟨rfl, rfl⟩ := Prod.mk.inj (Option.some.inj h2)
          clear h2 hq
          gi_wp2
          refine ⟨by simp, .inl ⟨_, _, rfl, run_takeDeferred HK6.out, ?_⟩⟩
          exact ⟨_, results_tmp2 rfl _ _ _, _, rfl, impl_ParseSends.row_kept HR6.out (grownBy_putObj' _ D _) (fun r e => by cases e; exact ⟨_, HK6.out, rfl⟩), HBB6.out.trans (belowK_b (w := w) (Nat.le_refl _) _ D _ _ (by have := HB2.out.size; omega) HK6.out rfl rfl)⟩
        · have q1 : (x.toList == s.toList) = false := beq_eq_false_iff_ne.mpr hq
          have q2 : (x.toList != s.toList) = true := bne_iff_ne.mpr hq
          rw [if_neg hq] at h2
          obtain ⟨rfl, rfl⟩ := Prod.mk.inj (Option.some.inj h2)
          clear h2 hq
          gi_wp2
          refine ⟨by simp, .inl ⟨_, _, rfl, run_takeDeferred HK6.out, ?_⟩⟩
          exact ⟨_, results_tmp2 rfl _ _ _, _, rfl, Kd.R_nil _ _ _ _ _, HBB6.out.trans (belowK_b (w := w) (Nat.le_refl _) _ D _ _ (by have := HB2.out.size; omega) HK6.out rfl rfl)⟩
    case stop => exact fun _ _ _ _ _ _ h _ => h.elim
  · rw [if_neg hok] at h
    obtain ⟨rfl, rfl⟩ := Prod.mk.inj (Option.some.inj h)
    clear h
    cases ok with
    | false =>
      gi_wp2
      exact ⟨_, results_tmp2 rfl _ _ _, _, rfl, Kd.R_nil _ _ _ _ _, B1.out⟩
    | true =>
      have t1 : ((L.length : Int) % 3 != 0) = true := by rw [bne_iff_ne]; intro e; exact hok ⟨rfl, by omega⟩
      clear hok
      gi_wp2
      exact ⟨_, results_tmp2 rfl _ _ _, _, rfl, Kd.R_nil _ _ _ _ _, B1.out⟩
end


/-! ### laws_markSendS: function 23 -/
def laws_markSendS.l0 : Nat → List (S51) → Int → Int → Option (Int × (List (S51)))
  | 0, _, _, _ => none
  | k + 1, x0, x1, x5 => if x5 < (x0.length : Int) then (if 0 ≤ x5 then ((some (x0.set (x5 : Int).toNat (⟨x1, (rd_T51 x0 x5).f1, (rd_T51 x0 x5).f2⟩ : S51) : List (S51))).bind fun y162 => ((some (y162.set (x5 : Int).toNat (⟨(rd_T51 y162 x5).f0, wrap64 (x1 + 1), (rd_T51 y162 x5).f2⟩ : S51) : List (S51))).bind fun y163 => (laws_markSendS.l0 k (y163.set (x5 : Int).toNat (⟨(rd_T51 y163 x5).f0, (rd_T51 y163 x5).f1, wrap64 ((wrap64 (x1 + 1)) + 1)⟩ : S51)) (wrap64 ((wrap64 ((wrap64 (x1 + 1)) + 1)) + 1)) (wrap64 (x5 + 1))))) else (none)) else (some (x1, x0))
def laws_markSendS.f (k : Nat) (l0 : List (S51)) (a1 : Int) : Option (Int × (List (S51))) := laws_markSendS.l0 k l0 a1 0
theorem laws_markSendS.mono_l : ∀ k, (∀ y0 y1 y2, LeO (laws_markSendS.l0 k y0 y1 y2) (laws_markSendS.l0 (k + 1) y0 y1 y2))
  | 0 => fun _ _ _ r h => by simp [laws_markSendS.l0] at h
  | k + 1 => by
    have ih0 := laws_markSendS.mono_l k
    · intro y0 y1 y2
      unfold laws_markSendS.l0
      repeat' first
      | (with_reducible exact ih0 _ _ _)
      | (with_reducible exact LeO.refl _)
      | (with_reducible exact LeO.none _)
      | (with_reducible refine LeO.ite ?_ ?_)
      | (with_reducible refine LeO.bind ?_ (fun _ => ?_))
      | exact ih0 _ _ _
      | exact LeO.none _
      | refine LeO.ite ?_ ?_
      | refine LeO.bind ?_ (fun _ => ?_)
theorem laws_markSendS.mono : ∀ a0 a1 k, LeO (laws_markSendS.f k a0 a1) (laws_markSendS.f (k + 1) a0 a1) := by
  intro a0 a1 k
  have ih0 := laws_markSendS.mono_l k
  unfold laws_markSendS.f
  repeat' first
      | (with_reducible exact ih0 _ _ _)
      | (with_reducible exact LeO.refl _)
      | (with_reducible exact LeO.none _)
      | (with_reducible refine LeO.ite ?_ ?_)
      | (with_reducible refine LeO.bind ?_ (fun _ => ?_))
      | exact ih0 _ _ _
      | exact LeO.none _
      | refine LeO.ite ?_ ?_
      | refine LeO.bind ?_ (fun _ => ?_)
set_option maxHeartbeats 8000000 in
set_option maxRecDepth 100000 in
theorem laws_markSendS.calls (k : Nat) (P0_ : Nat → Prop) (u9000_ : Value) (l0 : List (S51)) (a1 : Int) (r1 : Int) (r2 : List (S51)) (w0 w : World) (hB : Below w0.heap.size w0 w) (ho0 : Kd.R k51 51 w w0.heap.size P0_ u9000_ l0) (h : laws_markSendS.f k l0 a1 = some (r1, r2)) :
    Calls Tryd.prog 23 #[u9000_, .int .i64 a1] w fun e w' => e = .returned (.int .i64 r1) ∧ Kd.R k51 51 w' w0.heap.size (fun k_ => (P0_ k_ ∨ w.heap.size ≤ k_)) u9000_ r2 ∧ Below w0.heap.size w0 w' ∧ Kept w w' (fun k_ => P0_ k_) := by
  have HO0 := Aside0.mk (show Kd.R k51 51 w w0.heap.size (fun k_ => (P0_ k_ ∨ w.heap.size ≤ k_)) u9000_ l0 from Kd.R_mono ho0 (fun k_ hk => (.inl hk)))
  have HK := Aside0.mk (Kept.refl w (fun k_ => P0_ k_))
  have HW0 := Aside0.mk hB.size
  have HB := Aside0.mk hB
  clear hB
  have H : (laws_markSendS.l0 k l0 a1 0) = some (r1, r2) := h
  clear h
  have H' := Aside0.mk H
  clear H
  go_enter Tryd.func23, Tryd.ntmps23
  go_wp2
  go_loopg [1, 5] k (fun kq v1 v5 w' => ∃ (x0_1 : List (S51)) (x1_1 : Int) (x5_1 : Int), v1 = .int .i64 x1_1 ∧ v5 = .int .i64 x5_1 ∧ Aside0 (laws_markSendS.l0 kq x0_1 x1_1 x5_1 = some (r1, r2)) ∧ Aside0 (kq ≤ k) ∧ Aside0 (Kd.R k51 51 w' w0.heap.size (fun k_ => (P0_ k_ ∨ w.heap.size ≤ k_)) u9000_ x0_1) ∧ Aside0 (Kept w w' (fun k_ => P0_ k_)) ∧ Aside0 (Below w0.heap.size w0 w'))
  case atStart => exact ⟨(l0), (a1), (0), (by first | rfl | (simp; done) | (simp [*]; done)), (by first | rfl | (simp; done) | (simp [*]; done)), H', ⟨Nat.le_refl _⟩, ⟨by (with_reducible repeat (first | apply Kd.R_alloc | apply Kd.R_drewN | apply Kd.R_drew)); exact HO0.out⟩, ⟨by repeat (first | (with_reducible first | exact HK.out | apply Kept.alloc | apply Kept.drewN | apply Kept.drew) | exact HK.out)⟩, ⟨by repeat (first | (with_reducible first | exact HB.out | apply below_alloc | apply pw_below_drewN | apply below_drew1) | exact HB.out)⟩⟩
  case round =>
    clear H'
    try clear c2
    try clear p2
    obtain ⟨x0_1, x1_1, x5_1, rfl, rfl, HA, HK1, HO_0, HK, HB⟩ := hrel
    cases gk with
    | zero => exact absurd HA.out (by simp [laws_markSendS.l0])
    | succ k1 =>
      have H := HA.out
      clear HA
      simp only [laws_markSendS.l0] at H
      by_cases c3 : x5_1 < (x0_1.length : Int)
      · rw [if_pos c3] at H
        have c3b0 : decide (x5_1 < (x0_1.length : Int)) = true := decide_eq_true c3
        clear c3
        by_cases c4 : 0 ≤ x5_1
        · rw [if_pos c4] at H
          have c4b0 : decide (0 ≤ x5_1) = true := decide_eq_true c4
          clear c4
          obtain ⟨y162, hy162⟩ : ∃ y_ : List (S51), y_ = (x0_1.set (x5_1 : Int).toNat (⟨x1_1, (rd_T51 x0_1 x5_1).f1, (rd_T51 x0_1 x5_1).f2⟩ : S51)) := ⟨_, rfl⟩
          replace H : ((some (y162.set (x5_1 : Int).toNat (⟨(rd_T51 y162 x5_1).f0, wrap64 (x1_1 + 1), (rd_T51 y162 x5_1).f2⟩ : S51) : List (S51))).bind fun y163 => (laws_markSendS.l0 k1 (y163.set (x5_1 : Int).toNat (⟨(rd_T51 y163 x5_1).f0, (rd_T51 y163 x5_1).f1, wrap64 ((wrap64 (x1_1 + 1)) + 1)⟩ : S51)) (wrap64 ((wrap64 ((wrap64 (x1_1 + 1)) + 1)) + 1)) (wrap64 (x5_1 + 1)))) = some (r1, r2) := by first | (rw [hy162]; with_reducible exact H) | (have H2_ := (Option.bind_some _ _).symm.trans H; rw [hy162]; with_reducible exact H2_) | (have H2_ := (Option.bind_some _ _).symm.trans H; with_reducible exact H2_) | with_reducible exact H | (rw [hy162]; exact H) | exact H
          have Ny162 := Aside0.mk hy162
          clear hy162
          obtain ⟨y163, hy163⟩ : ∃ y_ : List (S51), y_ = (y162.set (x5_1 : Int).toNat (⟨(rd_T51 y162 x5_1).f0, wrap64 (x1_1 + 1), (rd_T51 y162 x5_1).f2⟩ : S51)) := ⟨_, rfl⟩
          replace H : (laws_markSendS.l0 k1 (y163.set (x5_1 : Int).toNat (⟨(rd_T51 y163 x5_1).f0, (rd_T51 y163 x5_1).f1, wrap64 ((wrap64 (x1_1 + 1)) + 1)⟩ : S51)) (wrap64 ((wrap64 ((wrap64 (x1_1 + 1)) + 1)) + 1)) (wrap64 (x5_1 + 1))) = some (r1, r2) := by first | (rw [hy163]; with_reducible exact H) | (have H2_ := (Option.bind_some _ _).symm.trans H; rw [hy163]; with_reducible exact H2_) | (have H2_ := (Option.bind_some _ _).symm.trans H; with_reducible exact H2_) | with_reducible exact H | (rw [hy163]; exact H) | exact H
          have Ny163 := Aside0.mk hy163
          clear hy163
          obtain ⟨y164, hy164⟩ : ∃ y_ : List (S51), y_ = (y163.set (x5_1 : Int).toNat (⟨(rd_T51 y163 x5_1).f0, (rd_T51 y163 x5_1).f1, wrap64 ((wrap64 (x1_1 + 1)) + 1)⟩ : S51)) := ⟨_, rfl⟩
          replace H : (laws_markSendS.l0 k1 y164 (wrap64 ((wrap64 ((wrap64 (x1_1 + 1)) + 1)) + 1)) (wrap64 (x5_1 + 1))) = some (r1, r2) := by first | (rw [hy164]; with_reducible exact H) | (have H2_ := (Option.bind_some _ _).symm.trans H; rw [hy164]; with_reducible exact H2_) | (have H2_ := (Option.bind_some _ _).symm.trans H; with_reducible exact H2_) | with_reducible exact H | (rw [hy164]; exact H) | exact H
          have Ny164 := Aside0.mk hy164
          clear hy164
          have H' := Aside0.mk H
          clear H
          obtain ⟨Ao8, co8, eo8⟩ := Kd.R_slice HO_0.out
          subst eo8
          have p5 : 0 ≤ (x5_1 : Int) := of_decide_eq_true (by first | (with_reducible assumption) | assumption)
          have q5 : (x5_1 : Int) < ((x0_1.length : Int) : Int) := of_decide_eq_true (by first | (with_reducible assumption) | assumption)
          obtain ⟨go5, co5, eo5, gb5, gl5, cl5, HG5⟩ := Kd.R_form HO_0.out (by omega)
          (first | cases eo5 | (injection eo5 with ea_ en_ ec_; (first | subst ea_ | (injection ea_ with ea_; subst ea_)); subst ec_; clear en_))
          have GB5 := Aside0.mk gb5
          have GG5 := Aside0.mk HG5
          clear gb5 gl5 HG5
          have HMgo5 := Aside0.mk (show (P0_ go5 ∨ w.heap.size ≤ go5) from (HO_0.out.1 _ rfl))
          obtain ⟨ce5, hcl5, hM5, hcc5, hfr5⟩ := Kd.R_elem HO_0.out z51 (x5_1 : Int) p5 q5
          obtain rfl := k51_openM hM5
          have hx5_0 : wr.cell? ⟨go5, (x5_1 : Int).toNat * 3, none⟩ = some (.int .i64 ((rd_T51 x0_1 x5_1).f0)) := hcc5 0 _ rfl
          have hx5_1 : wr.cell? ⟨go5, (x5_1 : Int).toNat * 3 + 1, none⟩ = some (.int .i64 ((rd_T51 x0_1 x5_1).f1)) := hcc5 1 _ rfl
          have hx5_2 : wr.cell? ⟨go5, (x5_1 : Int).toNat * 3 + 2, none⟩ = some (.int .i64 ((rd_T51 x0_1 x5_1).f2)) := hcc5 2 _ rfl
          have hf5_0 : wr.frozen? ⟨go5, (x5_1 : Int).toNat * 3, none⟩ = false := hfr5 0
          have hf5_1 : wr.frozen? ⟨go5, (x5_1 : Int).toNat * 3 + 1, none⟩ = false := hfr5 1
          have hf5_2 : wr.frozen? ⟨go5, (x5_1 : Int).toNat * 3 + 2, none⟩ = false := hfr5 2
          (try clear hcl5); (try clear hcc5); (try clear hfr5); (try clear hM5)
          replace p5 := eq_true p5
          replace q5 := eq_true q5
          have HX9 := Aside0.mk (show Kd.R k51 51 wr w0.heap.size (fun k_ => (P0_ k_ ∨ w.heap.size ≤ k_)) (.slice (some ⟨go5, 0, none⟩) x0_1.length co8) x0_1 from (by (with_reducible repeat (first | apply Kd.R_alloc | apply Kd.R_drewN | apply Kd.R_drew)); exact HO_0.out))
          obtain ⟨ce9, hcl9, hM9, hcc9, hfr9⟩ := Kd.R_elem HX9.out z51 (x5_1 : Int) (of_decide_eq_true (by first | (with_reducible assumption) | assumption)) (by have h_ : (x5_1 : Int) < ((x0_1.length : Int) : Int) := of_decide_eq_true (by first | (with_reducible assumption) | assumption); first | exact h_ | (have e_ := (Kd.R_reads' HO_0.out).1; omega) | simpa using h_)
          obtain rfl := k51_openM hM9
          have HP9 := Kd.R_seg HX9.out (x5_1 : Int) (of_decide_eq_true (by first | (with_reducible assumption) | assumption)) (by have h_ : (x5_1 : Int) < ((x0_1.length : Int) : Int) := of_decide_eq_true (by first | (with_reducible assumption) | assumption); first | exact h_ | (have e_ := (Kd.R_reads' HO_0.out).1; omega) | simpa using h_) (seg := [.int .i64 x1_1]) (j := 0) hcl9 hcc9 (show 1 ≤ 3 from by decide) (x' := (⟨x1_1, (rd_T51 x0_1 x5_1).f1, (rd_T51 x0_1 x5_1).f2⟩ : S51)) (k51_mkM _ _ _ (⟨x1_1, (rd_T51 x0_1 x5_1).f1, (rd_T51 x0_1 x5_1).f2⟩ : S51) ) (fun _ hk => hk)
          have hx9_0 := hcc9 0 _ rfl
          (try simp only [show (k51).sz = 3 from rfl, Nat.mul_one, Nat.add_zero] at hx9_0)
          have hf9_0 := hfr9 0
          (try simp only [show (k51).sz = 3 from rfl, Nat.mul_one, Nat.add_zero] at hf9_0)
          (try clear hcl9); (try clear hcc9); (try clear hfr9); (try clear hM9)
          go_wp2_with (first | ((with_reducible refine gate_store (t := 3) (p := 16) rfl ?_); refine store_event (t := 3) (p := 16) (v := ?vo_w10) (w1 := (wr.setCell ⟨go5, (x5_1 : Int).toNat * 3, none⟩ (.int .i64 x1_1))) ?hg ?ho ?hn ?hr ?_; (case ho => rfl); (case hg => rfl); (case hn => rfl); (case hr => first | (go_simp; done) | (go_simp; rfl)); intro w10 hw; have hg : wr.grownBy w10 (some go5) := (by rw [hw]; exact HP9.2); have hp_ : Kd.R k51 51 w10 w0.heap.size (fun k_ => (P0_ k_ ∨ w.heap.size ≤ k_)) (.slice (some ⟨go5, 0, none⟩) x0_1.length co8) y162 := (by rw [hw, Ny162.out]; exact HP9.1); clear HP9; have n0_ := Aside0.mk (hp_); have n1_ := Aside0.mk ((by rw [hw]; exact below_set (HB.out) GB5.out : Below w0.heap.size w0 w10)); have n2_ := Aside0.mk (Kept.of_grown (S := (fun k_ => P0_ k_)) hg (by repeat (first | (with_reducible first | exact HK.out | apply Kept.alloc | apply Kept.drewN | apply Kept.drew) | exact HK.out)) (fun k_ e_ => (HO_0.out.1 k_ e_))); clear HO_0; clear HB; clear HK; have HO_0 := n0_; have HB := n1_; have HK := n2_; clear n0_ n1_ n2_; clear hg hw hp_; have p6 : 0 ≤ (x5_1 : Int) := of_decide_eq_true (by first | (with_reducible assumption) | assumption); have q6 : (x5_1 : Int) < ((x0_1.length : Int) : Int) := of_decide_eq_true (by first | (with_reducible assumption) | assumption); obtain ⟨ce6, hcl6, hM6, hcc6, hfr6⟩ := Kd.R_elem HO_0.out z51 (x5_1 : Int) p6 q6; obtain rfl := k51_openM hM6; have hx6_0 : w10.cell? ⟨go5, (x5_1 : Int).toNat * 3, none⟩ = some (.int .i64 ((rd_T51 y162 x5_1).f0)) := hcc6 0 _ rfl; have hx6_1 : w10.cell? ⟨go5, (x5_1 : Int).toNat * 3 + 1, none⟩ = some (.int .i64 ((rd_T51 y162 x5_1).f1)) := hcc6 1 _ rfl; have hx6_2 : w10.cell? ⟨go5, (x5_1 : Int).toNat * 3 + 2, none⟩ = some (.int .i64 ((rd_T51 y162 x5_1).f2)) := hcc6 2 _ rfl; have hf6_0 : w10.frozen? ⟨go5, (x5_1 : Int).toNat * 3, none⟩ = false := hfr6 0; have hf6_1 : w10.frozen? ⟨go5, (x5_1 : Int).toNat * 3 + 1, none⟩ = false := hfr6 1; have hf6_2 : w10.frozen? ⟨go5, (x5_1 : Int).toNat * 3 + 2, none⟩ = false := hfr6 2; (try clear hcl6); (try clear hcc6); (try clear hfr6); (try clear hM6); replace p6 := eq_true p6; replace q6 := eq_true q6; have HX11 := Aside0.mk (show Kd.R k51 51 w10 w0.heap.size (fun k_ => (P0_ k_ ∨ w.heap.size ≤ k_)) (.slice (some ⟨go5, 0, none⟩) x0_1.length co8) y162 from (by (with_reducible repeat (first | apply Kd.R_alloc | apply Kd.R_drewN | apply Kd.R_drew)); exact HO_0.out)); obtain ⟨ce11, hcl11, hM11, hcc11, hfr11⟩ := Kd.R_elem HX11.out z51 (x5_1 : Int) (of_decide_eq_true (by first | (with_reducible assumption) | assumption)) (by have h_ : (x5_1 : Int) < ((x0_1.length : Int) : Int) := of_decide_eq_true (by first | (with_reducible assumption) | assumption); first | exact h_ | (have e_ := (Kd.R_reads' HO_0.out).1; omega) | simpa using h_); obtain rfl := k51_openM hM11; have HP11 := Kd.R_seg HX11.out (x5_1 : Int) (of_decide_eq_true (by first | (with_reducible assumption) | assumption)) (by have h_ : (x5_1 : Int) < ((x0_1.length : Int) : Int) := of_decide_eq_true (by first | (with_reducible assumption) | assumption); first | exact h_ | (have e_ := (Kd.R_reads' HO_0.out).1; omega) | simpa using h_) (seg := [.int .i64 (wrap64 (x1_1 + 1))]) (j := 1) hcl11 hcc11 (show 2 ≤ 3 from by decide) (x' := (⟨(rd_T51 y162 x5_1).f0, wrap64 (x1_1 + 1), (rd_T51 y162 x5_1).f2⟩ : S51)) (k51_mkM _ _ _ (⟨(rd_T51 y162 x5_1).f0, wrap64 (x1_1 + 1), (rd_T51 y162 x5_1).f2⟩ : S51) ) (fun _ hk => hk); have hx11_1 := hcc11 1 _ rfl; (try simp only [show (k51).sz = 3 from rfl, Nat.mul_one, Nat.add_zero] at hx11_1); have hf11_1 := hfr11 1; (try simp only [show (k51).sz = 3 from rfl, Nat.mul_one, Nat.add_zero] at hf11_1); (try clear hcl11); (try clear hcc11); (try clear hfr11); (try clear hM11)) | ((with_reducible refine gate_store (t := 3) (p := 23) rfl ?_); refine store_event (t := 3) (p := 23) (v := ?vo_w12) (w1 := (w10.setCell ⟨go5, (x5_1 : Int).toNat * 3 + 1, none⟩ (.int .i64 (wrap64 (x1_1 + 1))))) ?hg ?ho ?hn ?hr ?_; (case ho => rfl); (case hg => rfl); (case hn => rfl); (case hr => first | (go_simp; done) | (go_simp; rfl)); intro w12 hw; have hg : w10.grownBy w12 (some go5) := (by rw [hw]; exact HP11.2); have hp_ : Kd.R k51 51 w12 w0.heap.size (fun k_ => (P0_ k_ ∨ w.heap.size ≤ k_)) (.slice (some ⟨go5, 0, none⟩) x0_1.length co8) y163 := (by rw [hw, Ny163.out]; exact HP11.1); clear HP11; have n0_ := Aside0.mk (hp_); have n1_ := Aside0.mk ((by rw [hw]; exact below_set (HB.out) GB5.out : Below w0.heap.size w0 w12)); have n2_ := Aside0.mk (Kept.of_grown (S := (fun k_ => P0_ k_)) hg (by repeat (first | (with_reducible first | exact HK.out | apply Kept.alloc | apply Kept.drewN | apply Kept.drew) | exact HK.out)) (fun k_ e_ => (HO_0.out.1 k_ e_))); clear HO_0; clear HB; clear HK; have HO_0 := n0_; have HB := n1_; have HK := n2_; clear n0_ n1_ n2_; clear hg hw hp_; have p7 : 0 ≤ (x5_1 : Int) := of_decide_eq_true (by first | (with_reducible assumption) | assumption); have q7 : (x5_1 : Int) < ((x0_1.length : Int) : Int) := of_decide_eq_true (by first | (with_reducible assumption) | assumption); obtain ⟨ce7, hcl7, hM7, hcc7, hfr7⟩ := Kd.R_elem HO_0.out z51 (x5_1 : Int) p7 q7; obtain rfl := k51_openM hM7; have hx7_0 : w12.cell? ⟨go5, (x5_1 : Int).toNat * 3, none⟩ = some (.int .i64 ((rd_T51 y163 x5_1).f0)) := hcc7 0 _ rfl; have hx7_1 : w12.cell? ⟨go5, (x5_1 : Int).toNat * 3 + 1, none⟩ = some (.int .i64 ((rd_T51 y163 x5_1).f1)) := hcc7 1 _ rfl; have hx7_2 : w12.cell? ⟨go5, (x5_1 : Int).toNat * 3 + 2, none⟩ = some (.int .i64 ((rd_T51 y163 x5_1).f2)) := hcc7 2 _ rfl; have hf7_0 : w12.frozen? ⟨go5, (x5_1 : Int).toNat * 3, none⟩ = false := hfr7 0; have hf7_1 : w12.frozen? ⟨go5, (x5_1 : Int).toNat * 3 + 1, none⟩ = false := hfr7 1; have hf7_2 : w12.frozen? ⟨go5, (x5_1 : Int).toNat * 3 + 2, none⟩ = false := hfr7 2; (try clear hcl7); (try clear hcc7); (try clear hfr7); (try clear hM7); replace p7 := eq_true p7; replace q7 := eq_true q7; have HX13 := Aside0.mk (show Kd.R k51 51 w12 w0.heap.size (fun k_ => (P0_ k_ ∨ w.heap.size ≤ k_)) (.slice (some ⟨go5, 0, none⟩) x0_1.length co8) y163 from (by (with_reducible repeat (first | apply Kd.R_alloc | apply Kd.R_drewN | apply Kd.R_drew)); exact HO_0.out)); obtain ⟨ce13, hcl13, hM13, hcc13, hfr13⟩ := Kd.R_elem HX13.out z51 (x5_1 : Int) (of_decide_eq_true (by first | (with_reducible assumption) | assumption)) (by have h_ : (x5_1 : Int) < ((x0_1.length : Int) : Int) := of_decide_eq_true (by first | (with_reducible assumption) | assumption); first | exact h_ | (have e_ := (Kd.R_reads' HO_0.out).1; omega) | simpa using h_); obtain rfl := k51_openM hM13; have HP13 := Kd.R_seg HX13.out (x5_1 : Int) (of_decide_eq_true (by first | (with_reducible assumption) | assumption)) (by have h_ : (x5_1 : Int) < ((x0_1.length : Int) : Int) := of_decide_eq_true (by first | (with_reducible assumption) | assumption); first | exact h_ | (have e_ := (Kd.R_reads' HO_0.out).1; omega) | simpa using h_) (seg := [.int .i64 (wrap64 ((wrap64 (x1_1 + 1)) + 1))]) (j := 2) hcl13 hcc13 (show 3 ≤ 3 from by decide) (x' := (⟨(rd_T51 y163 x5_1).f0, (rd_T51 y163 x5_1).f1, wrap64 ((wrap64 (x1_1 + 1)) + 1)⟩ : S51)) (k51_mkM _ _ _ (⟨(rd_T51 y163 x5_1).f0, (rd_T51 y163 x5_1).f1, wrap64 ((wrap64 (x1_1 + 1)) + 1)⟩ : S51) ) (fun _ hk => hk); have hx13_2 := hcc13 2 _ rfl; (try simp only [show (k51).sz = 3 from rfl, Nat.mul_one, Nat.add_zero] at hx13_2); have hf13_2 := hfr13 2; (try simp only [show (k51).sz = 3 from rfl, Nat.mul_one, Nat.add_zero] at hf13_2); (try clear hcl13); (try clear hcc13); (try clear hfr13); (try clear hM13)) | ((with_reducible refine gate_store (t := 3) (p := 30) rfl ?_); refine store_event (t := 3) (p := 30) (v := ?vo_w14) (w1 := (w12.setCell ⟨go5, (x5_1 : Int).toNat * 3 + 2, none⟩ (.int .i64 (wrap64 ((wrap64 (x1_1 + 1)) + 1))))) ?hg ?ho ?hn ?hr ?_; (case ho => rfl); (case hg => rfl); (case hn => rfl); (case hr => first | (go_simp; done) | (go_simp; rfl)); intro w14 hw; have hg : w12.grownBy w14 (some go5) := (by rw [hw]; exact HP13.2); have hp_ : Kd.R k51 51 w14 w0.heap.size (fun k_ => (P0_ k_ ∨ w.heap.size ≤ k_)) (.slice (some ⟨go5, 0, none⟩) x0_1.length co8) y164 := (by rw [hw, Ny164.out]; exact HP13.1); clear HP13; have n0_ := Aside0.mk (hp_); have n1_ := Aside0.mk ((by rw [hw]; exact below_set (HB.out) GB5.out : Below w0.heap.size w0 w14)); have n2_ := Aside0.mk (Kept.of_grown (S := (fun k_ => P0_ k_)) hg (by repeat (first | (with_reducible first | exact HK.out | apply Kept.alloc | apply Kept.drewN | apply Kept.drew) | exact HK.out)) (fun k_ e_ => (HO_0.out.1 k_ e_))); clear HO_0; clear HB; clear HK; have HO_0 := n0_; have HB := n1_; have HK := n2_; clear n0_ n1_ n2_; clear hg hw hp_))
          go_roundg k1
          case measure => have := HK1.out; omega
          case rel => exact ⟨(y164), (wrap64 ((wrap64 ((wrap64 (x1_1 + 1)) + 1)) + 1)), (wrap64 (x5_1 + 1)), (by first | rfl | (simp; done) | (simp [*]; done)), (by first | rfl | (simp; done) | (simp [*]; done)), H', ⟨by have := HK1.out; omega⟩, ⟨by (with_reducible repeat (first | apply Kd.R_alloc | apply Kd.R_drewN | apply Kd.R_drew)); exact HO_0.out⟩, ⟨by repeat (first | (with_reducible first | exact HK.out | apply Kept.alloc | apply Kept.drewN | apply Kept.drew) | exact HK.out)⟩, ⟨by repeat (first | (with_reducible first | exact HB.out | apply below_alloc | apply pw_below_drewN | apply below_drew1) | exact HB.out)⟩⟩
        · rw [if_neg c4] at H
          exact absurd H (by simp)
      · rw [if_neg c3] at H
        have c3b0 : decide (x5_1 < (x0_1.length : Int)) = false := decide_eq_false c3
        clear c3
        simp only [Option.some.injEq, Prod.mk.injEq] at H
        obtain ⟨rfl, rfl⟩ := H
        obtain ⟨Ao15, co15, eo15⟩ := Kd.R_slice HO_0.out
        subst eo15
        go_wp2
        go_ret
        exact ⟨by first | rfl | (simp [errW_none, errW_some] <;> rfl) | (simp [*, errW_none, errW_some] <;> rfl), by (with_reducible repeat (first | apply Kd.R_alloc | apply Kd.R_drewN | apply Kd.R_drew)); exact HO_0.out, by repeat (first | (with_reducible first | exact HB.out | apply below_alloc | apply pw_below_drewN | apply below_drew1) | exact HB.out), by repeat (first | (with_reducible first | exact HK.out | apply Kept.alloc | apply Kept.drewN | apply Kept.drew) | exact HK.out)⟩

/-! ### laws_heldSendS: function 24 -/
def laws_heldSendS.l0 : Nat → List (S51) → Int → Int → Option (Int)
  | 0, _, _, _ => none
  | k + 1, x0, x1, x5 => if x5 < (x0.length : Int) then (if 0 ≤ x5 then (if ((rd_T51 x0 x5).f0) = x1 then (if ((rd_T51 x0 x5).f1) = (wrap64 (x1 + 1)) then (if ((rd_T51 x0 x5).f2) = (wrap64 ((wrap64 (x1 + 1)) + 1)) then (laws_heldSendS.l0 k x0 (wrap64 ((wrap64 ((wrap64 (x1 + 1)) + 1)) + 1)) (wrap64 (x5 + 1))) else (some (-1))) else (some (-1))) else (some (-1))) else (none)) else (some x1)
def laws_heldSendS.f (k : Nat) (l0 : List (S51)) (a1 : Int) : Option (Int) := laws_heldSendS.l0 k l0 a1 0
theorem laws_heldSendS.mono_l : ∀ k, (∀ y0 y1 y2, LeO (laws_heldSendS.l0 k y0 y1 y2) (laws_heldSendS.l0 (k + 1) y0 y1 y2))
  | 0 => fun _ _ _ r h => by simp [laws_heldSendS.l0] at h
  | k + 1 => by
    have ih0 := laws_heldSendS.mono_l k
    · intro y0 y1 y2
      unfold laws_heldSendS.l0
      repeat' first
      | (with_reducible exact ih0 _ _ _)
      | (with_reducible exact LeO.refl _)
      | (with_reducible exact LeO.none _)
      | (with_reducible refine LeO.ite ?_ ?_)
      | (with_reducible refine LeO.bind ?_ (fun _ => ?_))
      | exact ih0 _ _ _
      | exact LeO.none _
      | refine LeO.ite ?_ ?_
      | refine LeO.bind ?_ (fun _ => ?_)
theorem laws_heldSendS.mono : ∀ a0 a1 k, LeO (laws_heldSendS.f k a0 a1) (laws_heldSendS.f (k + 1) a0 a1) := by
  intro a0 a1 k
  have ih0 := laws_heldSendS.mono_l k
  unfold laws_heldSendS.f
  repeat' first
      | (with_reducible exact ih0 _ _ _)
      | (with_reducible exact LeO.refl _)
      | (with_reducible exact LeO.none _)
      | (with_reducible refine LeO.ite ?_ ?_)
      | (with_reducible refine LeO.bind ?_ (fun _ => ?_))
      | exact ih0 _ _ _
      | exact LeO.none _
      | refine LeO.ite ?_ ?_
      | refine LeO.bind ?_ (fun _ => ?_)
set_option maxHeartbeats 8000000 in
set_option maxRecDepth 100000 in
theorem laws_heldSendS.calls (k : Nat) (A0 : Option Addr) (c0 : Nat) (l0 : List (S51)) (a1 : Int) (r : Int) (w : World) (hr0 : Kd.C k51 w A0 l0.length l0) (hc0 : l0.length ≤ c0) (h : laws_heldSendS.f k l0 a1 = some r) :
    Calls Tryd.prog 24 #[.slice A0 l0.length c0, .int .i64 a1] w fun e w' => e = .returned (.int .i64 r) ∧ Drawn0 w w' := by
  have HR0 := Aside0.mk hr0
  have HC0 := Aside0.mk hc0
  clear hr0 hc0
  have H : (laws_heldSendS.l0 k l0 a1 0) = some r := h
  clear h
  have H' := Aside0.mk H
  clear H
  go_enter Tryd.func24, Tryd.ntmps24
  go_wp2
  go_loopg [1, 5] k (fun kq v1 v5 w' => ∃ (x1_1 : Int) (x5_1 : Int), v1 = .int .i64 x1_1 ∧ v5 = .int .i64 x5_1 ∧ Aside0 (laws_heldSendS.l0 kq l0 x1_1 x5_1 = some r) ∧ Aside0 (kq ≤ k) ∧ Drawn0 w w')
  case atStart => exact ⟨(a1), (0), (by first | rfl | (simp; done) | (simp [*]; done)), (by first | rfl | (simp; done) | (simp [*]; done)), H', ⟨Nat.le_refl _⟩, by repeat (first | exact Drawn0.refl _ | apply Drawn0.step)⟩
  case round =>
    clear H'
    try clear c2
    try clear p2
    obtain ⟨x1_1, x5_1, rfl, rfl, HA, HK1, ⟨m1, rfl⟩⟩ := hrel
    cases gk with
    | zero => exact absurd HA.out (by simp [laws_heldSendS.l0])
    | succ k1 =>
      have H := HA.out
      clear HA
      simp only [laws_heldSendS.l0] at H
      by_cases c3 : x5_1 < (l0.length : Int)
      · rw [if_pos c3] at H
        have c3b0 : decide (x5_1 < (l0.length : Int)) = true := decide_eq_true c3
        clear c3
        by_cases c4 : 0 ≤ x5_1
        · rw [if_pos c4] at H
          have c4b0 : decide (0 ≤ x5_1) = true := decide_eq_true c4
          clear c4
          by_cases c5 : ((rd_T51 l0 x5_1).f0) = x1_1
          · rw [if_pos c5] at H
            have c5b0 : (((rd_T51 l0 x5_1).f0) == x1_1) = true := beq_iff_eq.mpr c5
            have c5b1 : (((rd_T51 l0 x5_1).f0) != x1_1) = false := bne_eq_false_iff_eq.mpr c5
            clear c5
            by_cases c6 : ((rd_T51 l0 x5_1).f1) = (wrap64 (x1_1 + 1))
            · rw [if_pos c6] at H
              have c6b0 : (((rd_T51 l0 x5_1).f1) == (wrap64 (x1_1 + 1))) = true := beq_iff_eq.mpr c6
              have c6b1 : (((rd_T51 l0 x5_1).f1) != (wrap64 (x1_1 + 1))) = false := bne_eq_false_iff_eq.mpr c6
              clear c6
              by_cases c7 : ((rd_T51 l0 x5_1).f2) = (wrap64 ((wrap64 (x1_1 + 1)) + 1))
              · rw [if_pos c7] at H
                have c7b0 : (((rd_T51 l0 x5_1).f2) == (wrap64 ((wrap64 (x1_1 + 1)) + 1))) = true := beq_iff_eq.mpr c7
                have c7b1 : (((rd_T51 l0 x5_1).f2) != (wrap64 ((wrap64 (x1_1 + 1)) + 1))) = false := bne_eq_false_iff_eq.mpr c7
                clear c7
                have H' := Aside0.mk H
                clear H
                have p165 : 0 ≤ (x5_1 : Int) := of_decide_eq_true (by first | (with_reducible assumption) | assumption)
                have q165 : x5_1 < (l0.length : Int) := of_decide_eq_true (by first | (with_reducible assumption) | assumption)
                obtain ⟨ad165, e165, hx165_0, hx165_1, hx165_2⟩ := at_T51 HR0.out x5_1 p165 q165
                cases e165
                replace p165 := eq_true p165
                replace q165 := eq_true q165
                have p166 : 0 ≤ (x5_1 : Int) := of_decide_eq_true (by first | (with_reducible assumption) | assumption)
                have q166 : x5_1 < (l0.length : Int) := of_decide_eq_true (by first | (with_reducible assumption) | assumption)
                obtain ⟨ad166, e166, hx166_0, hx166_1, hx166_2⟩ := at_T51 HR0.out x5_1 p166 q166
                obtain rfl : ad165 = ad166 := (by injection e166)
                replace p166 := eq_true p166
                replace q166 := eq_true q166
                have p167 : 0 ≤ (x5_1 : Int) := of_decide_eq_true (by first | (with_reducible assumption) | assumption)
                have q167 : x5_1 < (l0.length : Int) := of_decide_eq_true (by first | (with_reducible assumption) | assumption)
                obtain ⟨ad167, e167, hx167_0, hx167_1, hx167_2⟩ := at_T51 HR0.out x5_1 p167 q167
                obtain rfl : ad165 = ad167 := (by injection e167)
                replace p167 := eq_true p167
                replace q167 := eq_true q167
                go_wp2
                go_roundg k1
                case measure => have := HK1.out; omega
                case rel => exact ⟨(wrap64 ((wrap64 ((wrap64 (x1_1 + 1)) + 1)) + 1)), (wrap64 (x5_1 + 1)), (by first | rfl | (simp; done) | (simp [*]; done)), (by first | rfl | (simp; done) | (simp [*]; done)), H', ⟨by have := HK1.out; omega⟩, by repeat (first | exact Drawn0.refl _ | apply Drawn0.step)⟩
              · rw [if_neg c7] at H
                have c7b0 : (((rd_T51 l0 x5_1).f2) == (wrap64 ((wrap64 (x1_1 + 1)) + 1))) = false := beq_eq_false_iff_ne.mpr c7
                have c7b1 : (((rd_T51 l0 x5_1).f2) != (wrap64 ((wrap64 (x1_1 + 1)) + 1))) = true := bne_iff_ne.mpr c7
                obtain rfl := Option.some.inj H
                have p165 : 0 ≤ (x5_1 : Int) := of_decide_eq_true (by first | (with_reducible assumption) | assumption)
                have q165 : x5_1 < (l0.length : Int) := of_decide_eq_true (by first | (with_reducible assumption) | assumption)
                obtain ⟨ad165, e165, hx165_0, hx165_1, hx165_2⟩ := at_T51 HR0.out x5_1 p165 q165
                cases e165
                replace p165 := eq_true p165
                replace q165 := eq_true q165
                have p166 : 0 ≤ (x5_1 : Int) := of_decide_eq_true (by first | (with_reducible assumption) | assumption)
                have q166 : x5_1 < (l0.length : Int) := of_decide_eq_true (by first | (with_reducible assumption) | assumption)
                obtain ⟨ad166, e166, hx166_0, hx166_1, hx166_2⟩ := at_T51 HR0.out x5_1 p166 q166
                obtain rfl : ad165 = ad166 := (by injection e166)
                replace p166 := eq_true p166
                replace q166 := eq_true q166
                have p167 : 0 ≤ (x5_1 : Int) := of_decide_eq_true (by first | (with_reducible assumption) | assumption)
                have q167 : x5_1 < (l0.length : Int) := of_decide_eq_true (by first | (with_reducible assumption) | assumption)
                obtain ⟨ad167, e167, hx167_0, hx167_1, hx167_2⟩ := at_T51 HR0.out x5_1 p167 q167
                obtain rfl : ad165 = ad167 := (by injection e167)
                replace p167 := eq_true p167
                replace q167 := eq_true q167
                go_wp2
                go_ret
                exact ⟨by first | rfl | (simp; done) | (simp [*]; done), by repeat (first | exact Drawn0.refl _ | apply Drawn0.step)⟩
            · rw [if_neg c6] at H
              have c6b0 : (((rd_T51 l0 x5_1).f1) == (wrap64 (x1_1 + 1))) = false := beq_eq_false_iff_ne.mpr c6
              have c6b1 : (((rd_T51 l0 x5_1).f1) != (wrap64 (x1_1 + 1))) = true := bne_iff_ne.mpr c6
              obtain rfl := Option.some.inj H
              have p165 : 0 ≤ (x5_1 : Int) := of_decide_eq_true (by first | (with_reducible assumption) | assumption)
              have q165 : x5_1 < (l0.length : Int) := of_decide_eq_true (by first | (with_reducible assumption) | assumption)
              obtain ⟨ad165, e165, hx165_0, hx165_1, hx165_2⟩ := at_T51 HR0.out x5_1 p165 q165
              cases e165
              replace p165 := eq_true p165
              replace q165 := eq_true q165
              have p166 : 0 ≤ (x5_1 : Int) := of_decide_eq_true (by first | (with_reducible assumption) | assumption)
              have q166 : x5_1 < (l0.length : Int) := of_decide_eq_true (by first | (with_reducible assumption) | assumption)
              obtain ⟨ad166, e166, hx166_0, hx166_1, hx166_2⟩ := at_T51 HR0.out x5_1 p166 q166
              obtain rfl : ad165 = ad166 := (by injection e166)
              replace p166 := eq_true p166
              replace q166 := eq_true q166
              go_wp2
              go_ret
              exact ⟨by first | rfl | (simp; done) | (simp [*]; done), by repeat (first | exact Drawn0.refl _ | apply Drawn0.step)⟩
          · rw [if_neg c5] at H
            have c5b0 : (((rd_T51 l0 x5_1).f0) == x1_1) = false := beq_eq_false_iff_ne.mpr c5
            have c5b1 : (((rd_T51 l0 x5_1).f0) != x1_1) = true := bne_iff_ne.mpr c5
            obtain rfl := Option.some.inj H
            have p165 : 0 ≤ (x5_1 : Int) := of_decide_eq_true (by first | (with_reducible assumption) | assumption)
            have q165 : x5_1 < (l0.length : Int) := of_decide_eq_true (by first | (with_reducible assumption) | assumption)
            obtain ⟨ad165, e165, hx165_0, hx165_1, hx165_2⟩ := at_T51 HR0.out x5_1 p165 q165
            cases e165
            replace p165 := eq_true p165
            replace q165 := eq_true q165
            go_wp2
            go_ret
            exact ⟨by first | rfl | (simp; done) | (simp [*]; done), by repeat (first | exact Drawn0.refl _ | apply Drawn0.step)⟩
        · rw [if_neg c4] at H
          exact absurd H (by simp)
      · rw [if_neg c3] at H
        have c3b0 : decide (x5_1 < (l0.length : Int)) = false := decide_eq_false c3
        clear c3
        obtain rfl := Option.some.inj H
        go_wp2
        go_ret
        exact ⟨by first | rfl | (simp; done) | (simp [*]; done), by repeat (first | exact Drawn0.refl _ | apply Drawn0.step)⟩

end Go.Proofs.YtbghdbpaihkcjabDoor.PFnExactParseSends
