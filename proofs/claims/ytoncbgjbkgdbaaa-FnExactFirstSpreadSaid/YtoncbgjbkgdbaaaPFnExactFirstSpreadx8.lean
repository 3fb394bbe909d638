-- Written by a program of this claim, over the kit's print: the functions that a law reaches, their plain forms and the walks.
import Derived.Test.YtoncbgjbkgdbaaaPFnExactFirstSpreadx0
import Derived.Test.YtoncbgjbkgdbaaaPFnExactFirstSpreadx6
import Derived.Test.YtoncbgjbkgdbaaaPFnExactFirstSpreadx7
namespace Go.Proofs.Ytoncbgjbkgdbaaa.PFnExactFirstSpread
open Go.RowKit Go.Proofs.YtoncbgjbkgdbaaaW.PrintWords Go.Proofs.YtoncbgjbkgdbaaaW.PrintLast Go.Proofs.YtoncbgjbkgdbaaaW.PrintMore
attribute [local go_sem] max2_int min2_int max_two min_two max_three min_three max_four min_four   -- for this text's walks alone
set_option linter.unusedVariables false
set_option linter.unusedSimpArgs false

/-! ### impl_spread_left: function 43 -/
/-- Who knows behind a round. -/
def impl_spread_left.bh (set : Int) (r : List S54) : Int := r.foldl (fun s c => Go.bits .or .u16 s (impl_matchings.own c)) set
/-- All know. -/
def impl_spread_left.full (fr : Int) : Int := IntKind.u16.wrap (shl .u16 1 fr - 1)
/-- One more round. -/
def impl_spread_left.one (n best : Int) : Int := if n ≥ 0 ∧ (best < 0 ∨ n + 1 < best) then n + 1 else best
/-- The least number of rounds, at most so many. -/
def impl_spread_left.dist (fr : Int) (pairs : List S54) : Nat → Int → Int
  | 0, set => if set = impl_spread_left.full fr then 0 else -1
  | k + 1, set => if set = impl_spread_left.full fr then 0 else ((impl_spread_rounds.rounds set pairs).drop 1).foldl (fun best r => impl_spread_left.one (impl_spread_left.dist fr pairs k (impl_spread_left.bh set r)) best) (-1)
/-- So many rounds do, whatever they are. -/
def impl_spread_left.Good (fr : Int) (pairs : List S54) : Nat → Int → Prop
  | 0, set => set = impl_spread_left.full fr
  | k + 1, set => set = impl_spread_left.full fr ∨ ∀ r ∈ (impl_spread_rounds.rounds set pairs).drop 1, impl_spread_left.Good fr pairs k (impl_spread_left.bh set r)
theorem impl_spread_left.foldl_same {α : Type} {f g : Int → α → Int} : ∀ (l : List α) (b : Int), (∀ b, ∀ r ∈ l, f b r = g b r) → l.foldl f b = l.foldl g b
  | [], _, _ => rfl
  | r :: l, b, h => by
    rw [List.foldl_cons, List.foldl_cons, h b r (by simp), impl_spread_left.foldl_same l _ (fun b r hr => h b r (by simp [hr]))]
theorem impl_spread_left.dist_up (fr : Int) (pairs : List S54) : ∀ (k : Nat) (set : Int), impl_spread_left.Good fr pairs k set → impl_spread_left.dist fr pairs (k + 1) set = impl_spread_left.dist fr pairs k set
  | 0, set, h => by
    have h' : set = impl_spread_left.full fr := h
    unfold impl_spread_left.dist
    rw [if_pos h', if_pos h']
  | k + 1, set, h => by
    unfold impl_spread_left.dist
    by_cases e : set = impl_spread_left.full fr
    · rw [if_pos e, if_pos e]
    · rw [if_neg e, if_neg e]
      refine impl_spread_left.foldl_same _ _ (fun b r hr => ?_)
      rw [impl_spread_left.dist_up fr pairs k _ ((h.resolve_left e) r hr)]
theorem impl_spread_left.good_up (fr : Int) (pairs : List S54) : ∀ (k : Nat) (set : Int), impl_spread_left.Good fr pairs k set → impl_spread_left.Good fr pairs (k + 1) set
  | 0, set, h => .inl h
  | k + 1, set, h => h.imp id (fun h r hr => impl_spread_left.good_up fr pairs k _ (h r hr))
/-- The least number of rounds. -/
def impl_spread_left.D (fr : Int) (pairs : List S54) (set : Int) : Int := impl_spread_left.dist fr pairs 300 set
theorem impl_spread_left.dist_le (fr : Int) (pairs : List S54) : ∀ (d k : Nat) (set : Int), impl_spread_left.Good fr pairs k set → impl_spread_left.dist fr pairs (k + d) set = impl_spread_left.dist fr pairs k set ∧ impl_spread_left.Good fr pairs (k + d) set
  | 0, k, set, h => ⟨rfl, h⟩
  | d + 1, k, set, h => by
    obtain ⟨h1, h2⟩ := impl_spread_left.dist_le fr pairs d k set h
    exact ⟨(impl_spread_left.dist_up fr pairs (k + d) set h2).trans h1, impl_spread_left.good_up fr pairs (k + d) set h2⟩
theorem impl_spread_left.D_eq (fr : Int) (pairs : List S54) (k : Nat) (hk : k ≤ 300) (set : Int) (h : impl_spread_left.Good fr pairs k set) : impl_spread_left.D fr pairs set = impl_spread_left.dist fr pairs k set := by
  have h2 := (impl_spread_left.dist_le fr pairs (300 - k) k set h).1
  rw [show k + (300 - k) = 300 by omega] at h2
  exact h2
theorem impl_spread_left.D_step (fr : Int) (pairs : List S54) (k : Nat) (hk : k + 1 ≤ 300) (set : Int) (hne : set ≠ impl_spread_left.full fr) (h : impl_spread_left.Good fr pairs (k + 1) set) : ((impl_spread_rounds.rounds set pairs).drop 1).foldl (fun best r => impl_spread_left.one (impl_spread_left.D fr pairs (impl_spread_left.bh set r)) best) (-1) = impl_spread_left.D fr pairs set := by
  rw [impl_spread_left.D_eq fr pairs (k + 1) hk set h]
  unfold impl_spread_left.dist
  rw [if_neg hne]
  refine impl_spread_left.foldl_same _ _ (fun b r hr => ?_)
  rw [impl_spread_left.D_eq fr pairs k (by omega) _ ((h.resolve_left hne) r hr)]
theorem impl_spread_left.fold_bound {f : Int → List S54 → Int} (m : Int) (hf : ∀ b r, -1 ≤ b → b ≤ m → -1 ≤ f b r ∧ f b r ≤ m) : ∀ (l : List (List S54)) (b : Int), -1 ≤ b → b ≤ m → -1 ≤ l.foldl f b ∧ l.foldl f b ≤ m
  | [], b, h1, h2 => ⟨h1, h2⟩
  | r :: l, b, h1, h2 => impl_spread_left.fold_bound m hf l _ (hf b r h1 h2).1 (hf b r h1 h2).2
theorem impl_spread_left.dist_bound (fr : Int) (pairs : List S54) : ∀ (k : Nat) (set : Int), -1 ≤ impl_spread_left.dist fr pairs k set ∧ impl_spread_left.dist fr pairs k set ≤ (k : Int)
  | 0, set => by unfold impl_spread_left.dist; split <;> omega
  | k + 1, set => by
    unfold impl_spread_left.dist
    split
    · omega
    · refine impl_spread_left.fold_bound _ (fun b r h1 h2 => ?_) _ _ (by omega) (by omega)
      have := impl_spread_left.dist_bound fr pairs k (impl_spread_left.bh set r)
      unfold impl_spread_left.one
      split <;> omega
theorem impl_spread_left.D_bound (fr : Int) (pairs : List S54) (set : Int) : -1 ≤ impl_spread_left.D fr pairs set ∧ impl_spread_left.D fr pairs set ≤ 300 := impl_spread_left.dist_bound fr pairs 300 set
section
open Go.Maps
theorem impl_spread_left.size_u16 {w : World} {b n : Nat} {D0 : DataW Unit} (h : w.ownsMap Try.prog 63 (plainElem Try.prog 3) b n D0) : w.ownsMap Try.prog 63 (plainElem Try.prog 3) b 65536 D0 := by
  obtain ⟨es, clock, hb, F, hs, hD⟩ := h
  refine ⟨es, clock, hb, F, ?_, hD⟩
  have hk : ∀ x ∈ es.toList, ∃ a : Nat, x.key = .int .u16 (a : Int) ∧ a < 65536 := fun x hx => by
    obtain ⟨y, hy⟩ := F.reads x hx
    have h2 := Go.WideElems.rd_key hy
    have hu := Try.underlying63
    cases hq : x.key <;> simp [keyOf, mapKey, hu, hq] at h2
    rename_i q a
    obtain ⟨⟨h3, h4⟩, _⟩ := h2
    subst h3
    have h5 : 0 ≤ a ∧ a < 65536 := by
      have e1 : IntKind.u16.min = 0 := rfl
      have e2 : IntKind.u16.max = 65535 := rfl
      simp [Lit.wf] at h4
      omega
    exact ⟨a.toNat, by rw [Int.toNat_of_nonneg h5.1], by omega⟩
  have hn : es.toList.Pairwise (fun x y => x.key ≠ y.key) := ((Go.MapKept.stamped_iff es clock).1 F.stamped).2.2
  have key : ∀ l : List MapEntry, l.Pairwise (fun x y => x.key ≠ y.key) → (∀ x ∈ l, ∃ a : Nat, x.key = .int .u16 (a : Int) ∧ a < 65536) → (l.map fun x => match x.key with | .int _ a => a.toNat | _ => 0).Nodup ∧ (l.map fun x => match x.key with | .int _ a => a.toNat | _ => 0) ⊆ List.range 65536 := by
    intro l hp hl
    constructor
    · unfold List.Nodup
      rw [List.pairwise_map]
      refine List.Pairwise.imp_of_mem ?_ hp
      intro x y hx hy hne e
      obtain ⟨a, ha, _⟩ := hl x hx
      obtain ⟨c, hc, _⟩ := hl y hy
      rw [ha, hc] at e hne
      simp at e
      exact hne (by rw [e])
    · intro z hz
      obtain ⟨x, hx, rfl⟩ := List.mem_map.1 hz
      obtain ⟨a, ha, h2⟩ := hl x hx
      rw [ha]
      simpa using h2
  obtain ⟨k1, k2⟩ := key es.toList hn hk
  have := k1.length_le_of_subset k2
  simpa using this
/-- What is known stands in the map, and is right. -/
def impl_spread_left.Memo (fr : Int) (pairs : List S54) (b : Nat) (w : World) : Prop := ∃ D0 : DataW Unit, w.ownsMap Try.prog 63 (plainElem Try.prog 3) b 65536 D0 ∧ ∀ s : Int, has D0 (.int .u16 s) = true → D0.atKey (.int .u16 s) (.lit (.int .i64 0)) = .lit (.int .i64 (impl_spread_left.D fr pairs s))
theorem impl_spread_left.Memo.grown {fr : Int} {pairs : List S54} {b : Nat} {w w' : World} {row : Option Nat} (h : impl_spread_left.Memo fr pairs b w) (hg : w.grownBy w' row) (hr : some b ≠ row) : impl_spread_left.Memo fr pairs b w' := by
  obtain ⟨D0, h1, h2⟩ := h
  exact ⟨D0, h1.kept hg hr, h2⟩
theorem impl_spread_left.Memo.below {fr : Int} {pairs : List S54} {b : Nat} {w w' : World} (h : impl_spread_left.Memo fr pairs b w) (hb : Below w.heap.size w w') : impl_spread_left.Memo fr pairs b w' := h.grown (row := none) ⟨hb.os, hb.tape, hb.output, hb.size, fun i hi _ => hb.block i hi⟩ (by simp)
end
/-- The rounds' rows: calls of the pairs. -/
theorem impl_spread_left.addT_mem : ∀ (cs pre : List S54) (seen : Int) (r : List S54), r ∈ impl_matchings.addT cs pre seen → r.length ≤ pre.length + cs.length ∧ ∀ x ∈ r, x ∈ pre ∨ x ∈ cs
  | [], pre, seen, r, h => by simp [impl_matchings.addT] at h
  | c :: cs, pre, seen, r, h => by
    unfold impl_matchings.addT at h
    rcases List.mem_append.1 h with h | h
    · split at h
      · rcases List.mem_cons.1 h with rfl | h
        · refine ⟨by simp, fun x hx => ?_⟩
          rcases List.mem_append.1 hx with hx | hx
          · exact .inl hx
          · exact .inr (by simp at hx; simp [hx])
        · obtain ⟨h1, h2⟩ := impl_spread_left.addT_mem cs _ _ r h
          refine ⟨by simp at h1 ⊢; omega, fun x hx => ?_⟩
          rcases h2 x hx with h3 | h3
          · rcases List.mem_append.1 h3 with h3 | h3
            · exact .inl h3
            · exact .inr (by simp at h3; simp [h3])
          · exact .inr (by simp [h3])
      · cases h
    · obtain ⟨h1, h2⟩ := impl_spread_left.addT_mem cs _ _ r h
      refine ⟨by simp at h1 ⊢; omega, fun x hx => ?_⟩
      rcases h2 x hx with h3 | h3
      · exact .inl h3
      · exact .inr (by simp [h3])
theorem impl_spread_left.rounds_mem (set : Int) (pairs r : List S54) (h : r ∈ impl_spread_rounds.rounds set pairs) : r.length ≤ pairs.length ∧ ∀ x ∈ r, x ∈ pairs := by
  unfold impl_spread_rounds.rounds impl_matchings.all at h
  rcases List.mem_cons.1 h with rfl | h
  · exact ⟨by simp, fun x hx => by cases hx⟩
  · obtain ⟨h1, h2⟩ := impl_spread_left.addT_mem _ _ _ r h
    have := List.length_filter_le (fun x => !impl_spread_rounds.del set x) pairs
    refine ⟨by simp at h1; omega, fun x hx => ?_⟩
    rcases h2 x hx with h3 | h3
    · cases h3
    · exact (List.mem_filter.1 h3).1
theorem impl_spread_left.behind_l0 (r : List S54) (hr : r.length ≤ 1000) (hn : ∀ x ∈ r, 0 ≤ x.f0 ∧ 0 ≤ x.f1) : ∀ (d i k : Nat) (s : Int), i + d = r.length → d < k → impl_behind.l0 k s r (r.length : Int) (i : Int) = some (impl_spread_left.bh s (r.drop i))
  | 0, i, k, s, hi, hk => by
    obtain ⟨k, rfl⟩ : ∃ q, k = q + 1 := ⟨k - 1, by omega⟩
    simp only [impl_behind.l0]
    rw [if_neg (by omega), List.drop_eq_nil_of_le (by omega)]
    rfl
  | d + 1, i, k, s, hi, hk => by
    obtain ⟨k, rfl⟩ : ∃ q, k = q + 1 := ⟨k - 1, by omega⟩
    have ha : i < r.length := by omega
    have hx := hn _ (List.getElem_mem ha)
    have e : rd_T54 r (i : Int) = r[i] := by unfold rd_T54; simp [List.getD_eq_getElem?_getD, ha]
    simp only [impl_behind.l0]
    rw [if_pos (by omega), if_pos (by omega), if_pos (by omega), e, if_pos hx.1, if_pos hx.2, show wrap64 ((i : Int) + 1) = ((i + 1 : Nat) : Int) by unfold wrap64; omega, impl_spread_left.behind_l0 r hr hn d (i + 1) k _ (by omega) (by omega), List.drop_eq_getElem_cons ha]
    rfl
theorem impl_spread_left.behind_f (r : List S54) (hr : r.length ≤ 1000) (hn : ∀ x ∈ r, 0 ≤ x.f0 ∧ 0 ≤ x.f1) (s : Int) : impl_behind.f 1001 s r = some (impl_spread_left.bh s r) := by
  have h := impl_spread_left.behind_l0 r hr hn r.length 0 1001 s (by omega) (by omega)
  rw [List.drop_zero] at h
  exact h
theorem impl_spread_left.bh_range (set : Int) (h0 : 0 ≤ set) (h1 : set < 65536) : ∀ r : List S54, 0 ≤ impl_spread_left.bh set r ∧ impl_spread_left.bh set r < 65536 := by
  have hw : ∀ a b : Int, 0 ≤ Go.bits .or .u16 a b ∧ Go.bits .or .u16 a b < 65536 := fun a b => by
    have hq : ∀ n : Int, 0 ≤ IntKind.u16.wrap n ∧ IntKind.u16.wrap n < 65536 := fun n => by simp [IntKind.wrap, IntKind.bits, IntKind.signed]; omega
    unfold Go.bits
    exact hq _
  intro r
  unfold impl_spread_left.bh
  induction r generalizing set with
  | nil => exact ⟨h0, h1⟩
  | cons c r ih => exact ih _ (hw _ _).1 (hw _ _).2
def impl_spread_left.T10 : Bool × List (List Nat × List Nat) := (true, [([], []), ([], []), ([], []), ([1, 2], [1, 2]), ([0, 3, 3], [0, 3]), ([4, 4, 0, 1, 2, 3, 4], [4])])
def impl_spread_left.B10 : List Nat := [0, 0, 0, 6, 15, 31]
theorem impl_spread_left.tab10 : rtab .any (opsOf Try.f43 10) = impl_spread_left.T10 := by kernel_rfl
theorem impl_spread_left.bits10 : waitsOk impl_spread_left.T10.2 impl_spread_left.B10 = true := by kernel_rfl
theorem impl_spread_left.elem {rows : List (List S54)} {w : World} {B : Nat} {ok : Nat → Prop} {A : Option Addr} {c : Nat} (h : Kd.N (Kd.slice 54 k54) 26 w B ok (.slice A rows.length c) rows) (i : Nat) (hi : i < rows.length) :
    ∃ (ad : Addr) (A1 : Option Addr) (c1 : Nat) (a : List S54), A = some ad ∧ rows.drop i = a :: rows.drop (i + 1) ∧ w.cell? (ad.add i) = some (.slice A1 a.length c1) ∧ a.length ≤ c1 ∧ Kd.F k54 w ok A1 a.length a := by
  obtain ⟨ad, rfl⟩ : ∃ ad, A = some ad := by
    obtain ⟨ad, h1, _⟩ := (Kd.N_reads' h).2.2.2.2 (by omega)
    exact ⟨ad, h1⟩
  obtain ⟨ce, hce, hMe, hcc⟩ := Kd.N_get h [] (i : Int) (by omega) (by omega)
  obtain ⟨ua, uc, rfl, ul, ge⟩ := Kd.FK_slice_open hMe
  have hv := hcc 0 _ rfl
  rw [Nat.add_zero, show ((Kd.slice 54 k54)).sz = 1 from rfl, Nat.mul_one] at hv
  simp only [Int.toNat_natCast] at hv ul ge
  refine ⟨ad, ua, uc, rows.getD i [], rfl, ?_, hv, ul, Kd.F_mono ge (fun _ hk => hk.1)⟩
  rw [List.drop_eq_getElem_cons hi, List.getD_eq_getElem?_getD, List.getElem?_eq_getElem hi]
  rfl
theorem impl_spread_left.grown_refl (w : World) (row : Option Nat) : w.grownBy w row := ⟨rfl, rfl, rfl, Nat.le_refl _, fun _ _ _ => rfl⟩
theorem impl_spread_left.grown_trans {a b c : World} {row : Option Nat} (h : a.grownBy b row) (k : b.grownBy c row) : a.grownBy c row :=
  ⟨k.os.trans h.os, k.tape.trans h.tape, k.output.trans h.output, Nat.le_trans h.size k.size, fun i hi hn => (k.block i (Nat.lt_of_lt_of_le hi h.size) hn).trans (h.block i hi hn)⟩
theorem impl_spread_left.grown_below {a b c : World} {row : Option Nat} (h : a.grownBy b row) (k : Below b.heap.size b c) : a.grownBy c row :=
  impl_spread_left.grown_trans h ⟨k.os, k.tape, k.output, k.size, fun i hi _ => k.block i hi⟩
theorem impl_spread_left.cell_eq {W W' : World} {b j : Nat} {v : Value} (h : W.cell? ⟨b, j, none⟩ = some v) (e : W'.heap[b]? = W.heap[b]?) : W'.cell? ⟨b, j, none⟩ = some v := by
  simp only [World.cell?] at h ⊢
  rw [e]
  exact h
theorem impl_spread_left.C_grown {w w' : World} {A : Option Addr} {n b : Nat} {l : List S54} (h : Kd.C k54 w A n l) (hg : w.grownBy w' (some b)) (hA : 0 < n → ∀ ad, A = some ad → ad.block ≠ b) : Kd.C k54 w' A n l := by
  obtain ⟨h1, h2, h3⟩ := h
  refine ⟨h1, h2, fun hp => ?_⟩
  obtain ⟨ad, rfl, hc⟩ := h3 hp
  refine ⟨ad, rfl, fun j p hj => ?_⟩
  obtain ⟨c, hl, hK, hcc⟩ := hc j p hj
  have hce := k54_open hK
  subst hce
  refine ⟨_, hl, k54_mk w' p, fun i u hu => ?_⟩
  have h4 := hcc i u hu
  have h5 := World.block_lt_of_cell? w _ h4
  rw [add_block] at h5
  have h6 := hg.block ad.block h5 (fun e => hA hp ad rfl (by injection e))
  simp only [World.cell?, add_block] at h4 ⊢
  rw [h6]
  exact h4
theorem impl_spread_left.zero3 (w : World) : (zeroValue 3).run Try.prog w = .ok (.int .i64 0) w := by kernel_rfl
set_option maxRecDepth 100000 in
theorem impl_spread_left.key {s : Int} (h0 : 0 ≤ s) (h1 : s < 65536) : keyOf Try.prog 63 (.int .u16 s) = some (.int .u16 s) := Go.Maps.keyOf_int_mk Try.underlying63 (by
  have e1 : IntKind.u16.min = 0 := rfl
  have e2 : IntKind.u16.max = 65535 := rfl
  simp [Lit.wf]
  omega)
open Go.Maps in
set_option maxRecDepth 100000 in
theorem impl_spread_left.look {fr : Int} {pairs : List S54} {b : Nat} {w : World} (h : impl_spread_left.Memo fr pairs b w) {set : Int} (h0 : 0 ≤ set) (h1 : set < 65536) : ∃ (c : Int) (q : Bool), (Instr.lookup 59 (.map (some b)) (.int .u16 set) true).run Try.prog w = .ok (.tuple #[.int .i64 c, .bool q]) w ∧ (q = true → c = impl_spread_left.D fr pairs set) := by
  obtain ⟨D0, hown, hat⟩ := h
  obtain ⟨v, ps, hrun, hv⟩ := hown.look_ok (int_keyed Try.underlying63) Try.underlying59 (impl_spread_left.zero3 w) (plainElem_int Try.underlying3 (by decide)) (impl_spread_left.key h0 h1)
  obtain ⟨c, rfl, hc, _⟩ := plainElem_int_inv Try.underlying3 hv
  refine ⟨c, _, hrun, fun hq => ?_⟩
  have h2 := hat set hq
  have h3 := congrArg Prod.fst hc
  simp only at h3
  rw [h3] at h2
  injection h2 with h2
  injection h2
open Go.Maps in
set_option maxRecDepth 100000 in
theorem impl_spread_left.put {fr : Int} {pairs : List S54} {b : Nat} {w : World} (h : impl_spread_left.Memo fr pairs b w) {set : Int} (h0 : 0 ≤ set) (h1 : set < 65536) : ∃ w', (Instr.mapUpdate 59 (.map (some b)) (.int .u16 set) (.int .i64 (impl_spread_left.D fr pairs set))).run Try.prog w = .ok () w' ∧ impl_spread_left.Memo fr pairs b w' ∧ w.grownBy w' (some b) := by
  obtain ⟨D0, hown, hat⟩ := h
  have hD := impl_spread_left.D_bound fr pairs set
  have hwf : (Lit.int .i64 (impl_spread_left.D fr pairs set)).wf = true := by
    have e1 : IntKind.i64.min = -9223372036854775808 := rfl
    have e2 : IntKind.i64.max = 9223372036854775807 := rfl
    simp [Lit.wf]
    omega
  obtain ⟨w', hrun, hown', hg⟩ := hown.update (int_keyed Try.underlying63) Try.underlying59 (by decide) (impl_spread_left.key h0 h1) (plainElem_int Try.underlying3 hwf)
  refine ⟨w', hrun, ⟨_, impl_spread_left.size_u16 hown', fun s hs => ?_⟩, hg⟩
  by_cases e : s = set
  · subst e
    rw [atKey_put_same hown.isMap (by simp [WideAt.IsKeyLit])]
  · have hne : (Lit.int .u16 s) ≠ .int .u16 set := fun h => e (by injection h)
    rw [has_put_other hne] at hs
    rw [atKey_put_other hne]
    exact hat s hs
open Go.Maps in
set_option maxHeartbeats 8000000 in
set_option maxRecDepth 100000 in
theorem impl_spread_left.left0 (fr : Int) (hfr : 0 ≤ fr) (pairs : List S54) (A : Option Addr) (cc b : Nat) (set : Int) (W : World) (hs : set = impl_spread_left.full fr) (hM : impl_spread_left.Memo fr pairs b W) :
      Calls Try.prog 43 #[.agg #[.int .i64 fr, .slice A pairs.length cc, .map (some b)], .int .u16 set] W fun e w' => e = .returned (.int .i64 (impl_spread_left.D fr pairs set)) ∧ impl_spread_left.Memo fr pairs b w' ∧ W.grownBy w' (some b) := by
  have HM := Aside0.mk hM
  have d1 : decide (0 ≤ fr) = true := decide_eq_true hfr
  have d2 : (0 ≤ fr) = True := eq_true hfr
  obtain ⟨FU, hFU⟩ : ∃ FU, IntKind.u16.wrap (IntKind.u16.wrap (2 ^ min fr.toNat 16) - 1) = FU := ⟨_, rfl⟩
  have e : impl_spread_left.full fr = FU := by rw [← hFU]; unfold impl_spread_left.full shl; rw [Int.one_mul]; rfl
  have eD : impl_spread_left.D fr pairs set = 0 := by
    unfold impl_spread_left.D impl_spread_left.dist
    rw [if_pos hs]
  have hs2 : (set == FU) = true := beq_iff_eq.mpr (hs.trans e)
  rw [eD]
  have B := Aside0.mk (show Below W.heap.size W (W.alloc (.cells #[.int .i64 fr, .slice A pairs.length cc, .map (some b)] 61)) from below_alloc (Below.refl _ _) _)
  clear hM hs e eD
  go_enter Try.func43, Try.ntmps43
  go_wp2
  go_ret
  exact ⟨rfl, HM.out.below B.out, ⟨B.out.os, B.out.tape, B.out.output, B.out.size, fun i hi _ => B.out.block i hi⟩⟩
open Go.Maps in
set_option maxHeartbeats 8000000 in
set_option maxRecDepth 100000 in
theorem impl_spread_left.left (fr : Int) (hfr : 0 ≤ fr) (pairs : List S54) (hl : pairs.length ≤ 1000) (hn : ∀ x ∈ pairs, 0 ≤ x.f0 ∧ 0 ≤ x.f1) (hbd : ∀ set, (impl_spread_rounds.rounds set pairs).length ≤ 1000000000) (A : Option Addr) (cc b : Nat) (hcc : pairs.length ≤ cc) : ∀ (k : Nat), k ≤ 300 → ∀ (set : Int) (W : World), 0 ≤ set → set < 65536 → impl_spread_left.Good fr pairs k set → impl_spread_left.Memo fr pairs b W → Kd.C k54 W A pairs.length pairs → (0 < pairs.length → ∀ ad, A = some ad → ad.block ≠ b) →
      Calls Try.prog 43 #[.agg #[.int .i64 fr, .slice A pairs.length cc, .map (some b)], .int .u16 set] W fun e w' => e = .returned (.int .i64 (impl_spread_left.D fr pairs set)) ∧ impl_spread_left.Memo fr pairs b w' ∧ W.grownBy w' (some b) := by
  intro k
  induction k with
  | zero => intro _ set W _ _ hG hM _ _; exact impl_spread_left.left0 fr hfr pairs A cc b set W hG hM
  | succ k ih =>
    intro hk set W h0 h1 hG hM hC hA
    have HG := Aside0.mk hG
    have HM := Aside0.mk hM
    have HC := Aside0.mk hC
    have HA := Aside0.mk hA
    have d1 : decide (0 ≤ fr) = true := decide_eq_true hfr
    have d2 : (0 ≤ fr) = True := eq_true hfr
    by_cases hs : set = impl_spread_left.full fr
    · exact impl_spread_left.left0 fr hfr pairs A cc b set W hs hM
    obtain ⟨FU, hFU⟩ : ∃ FU, IntKind.u16.wrap (IntKind.u16.wrap (2 ^ min fr.toNat 16) - 1) = FU := ⟨_, rfl⟩
    have e : impl_spread_left.full fr = FU := by rw [← hFU]; unfold impl_spread_left.full shl; rw [Int.one_mul]; rfl
    have hs2 : (set == FU) = false := beq_eq_false_iff_ne.mpr (fun h => hs (h.trans e.symm))
    have HNS := Aside0.mk hs
    have BA := Aside0.mk (show Below W.heap.size W (W.alloc (.cells #[.int .i64 fr, .slice A pairs.length cc, .map (some b)] 61)) from below_alloc (Below.refl _ _) _)
    obtain ⟨c, q, hrun, hcq⟩ := impl_spread_left.look (hM.below BA.out) h0 h1
    have HCQ := Aside0.mk hcq
    have H01 := Aside0.mk (And.intro h0 h1)
    clear hG hM hC hA hs e hcq h0 h1
    go_enter Try.func43, Try.ntmps43
    cases q with
    | true =>
      go_wp2
      go_ret
      exact ⟨by have hc := HCQ.out (by trivial); subst hc; rfl, HM.out.below BA.out, ⟨BA.out.os, BA.out.tape, BA.out.output, BA.out.size, fun i hi _ => BA.out.block i hi⟩⟩
    | false =>
      go_wp2_with fail
      clear hrun HCQ
      have hbx0 : (W.alloc (.cells #[.int .i64 fr, .slice A pairs.length cc, .map (some b)] 61)).cell? ⟨W.heap.size, 0, none⟩ = some (.int .i64 fr) := (blk_cell (heap_alloc_new W _) 0).trans rfl
      have hbx1 : (W.alloc (.cells #[.int .i64 fr, .slice A pairs.length cc, .map (some b)] 61)).cell? ⟨W.heap.size, 1, none⟩ = some (.slice A pairs.length cc) := (blk_cell (heap_alloc_new W _) 1).trans rfl
      have hbx2 : (W.alloc (.cells #[.int .i64 fr, .slice A pairs.length cc, .map (some b)] 61)).cell? ⟨W.heap.size, 2, none⟩ = some (.map (some b)) := (blk_cell (heap_alloc_new W _) 2).trans rfl
      generalize W.alloc (.cells #[.int .i64 fr, .slice A pairs.length cc, .map (some b)] 61) = wA at BA hbx0 hbx1 hbx2 ⊢
      refine (impl_spread_rounds.calls pairs hl hn set fr (.map (some b)) rfl (hbd set) A cc wA (Kd.C_below HC.out BA.out) hcc).mono ?_
      rintro e w3 ⟨v28, rfl, hs3, hb3⟩
      obtain ⟨rows, hrows⟩ : ∃ rows, rows = impl_spread_rounds.rounds set pairs := ⟨_, rfl⟩
      rw [← hrows] at hs3
      have B3 := Aside0.mk (below_step BA.out hb3)
      replace hbx0 := (hb3.cell (World.block_lt_of_cell? wA _ hbx0)).trans hbx0
      replace hbx1 := (hb3.cell (World.block_lt_of_cell? wA _ hbx1)).trans hbx1
      replace hbx2 := (hb3.cell (World.block_lt_of_cell? wA _ hbx2)).trans hbx2
      have HBX := Aside0.mk (And.intro hbx0 (And.intro hbx1 hbx2))
      have HBL := Aside0.mk (show b < W.heap.size from HM.out.choose_spec.1.lt)
      clear hbx0 hbx1 hbx2
      have N3 := Aside0.mk (show Kd.N (Kd.slice 54 k54) 26 w3 W.heap.size (fun k => W.heap.size ≤ k) v28 rows from Kd.S_N (Kd.S_lower (Kd.S_mono (Kd.S_bound hs3) (fun k hk => Nat.le_trans BA.out.size hk.2.1)) BA.out.size))
      have hr1 : 1 ≤ rows.length := by rw [hrows]; unfold impl_spread_rounds.rounds impl_matchings.all; simp
      have HROWS := Aside0.mk hrows
      clear hs3 hb3 hrows
      obtain ⟨A6, c6, rfl⟩ := Kd.N_slice N3.out
      obtain ⟨g6, cap6, hv6, _⟩ := Kd.N_form N3.out (by omega)
      cases hv6
      have hc6 := (Kd.N_reads' N3.out).2.1
      have HC6 := Aside0.mk hc6
      have HR1 := Aside0.mk hr1
      have q1 : (1 ≤ rows.length) = True := eq_true hr1
      have q2 : ((1 : Int) ≤ (rows.length : Int)) = True := eq_true (by omega)
      have q3 : decide ((1 : Int) ≤ (rows.length : Int)) = true := decide_eq_true (by omega)
      have q4 : (rows.length ≤ c6) = True := eq_true hc6
      have q5 : ((rows.length : Int) ≤ (c6 : Int)) = True := eq_true (by omega)
      have q6 : decide ((rows.length : Int) ≤ (c6 : Int)) = true := decide_eq_true (by omega)
      obtain ⟨A29, hA29⟩ : ∃ A29 : Option Addr, (if c6 = 1 then some (⟨g6, 0, none⟩ : Addr) else some ⟨g6, 1, none⟩) = A29 := ⟨_, rfl⟩
      have HA29 := Aside0.mk (show 2 ≤ rows.length → A29 = some ⟨g6, 1, none⟩ from fun h => by rw [← hA29, if_neg (by omega)])
      clear hr1 hc6
      go_wp2
      clear q1 q2 q3 q4 q5 q6 hA29
      go_loopg [7, 31] (rows.length + 1) (fun gg v7 v31 wr => ∃ (y : Nat) (best : Int), v7 = .int .i64 best ∧ v31 = .int .i64 (y : Int) ∧ Aside0 (y + 1 ≤ rows.length ∧ rows.length + 1 - y ≤ gg) ∧ Aside0 (-1 ≤ best ∧ best ≤ 301) ∧ Aside0 ((rows.drop (y + 1)).foldl (fun best r => impl_spread_left.one (impl_spread_left.D fr pairs (impl_spread_left.bh set r)) best) best = impl_spread_left.D fr pairs set) ∧ Aside0 (impl_spread_left.Memo fr pairs b wr) ∧ Aside0 (w3.grownBy wr (some b)))
      case atStart => exact ⟨0, -1, rfl, rfl, ⟨by have := HR1.out; omega, by omega⟩, ⟨by omega, by omega⟩, ⟨by rw [HROWS.out]; exact impl_spread_left.D_step fr pairs k hk set HNS.out HG.out⟩, ⟨HM.out.below B3.out⟩, ⟨impl_spread_left.grown_refl _ _⟩⟩
      case round =>
        obtain ⟨y, best, rfl, rfl, HY, HBE, HE, HMM, HGW⟩ := hrel
        have hgb : ∀ k, W.heap.size ≤ k → k < w3.heap.size → wr.heap[k]? = w3.heap[k]? := fun k h1 h2 => HGW.out.block k h2 (fun e => by injection e with e; have := HBL.out; omega)
        have hx0 := impl_spread_left.cell_eq HBX.out.1 (hgb _ (Nat.le_refl _) (World.block_lt_of_cell? w3 _ HBX.out.1))
        have hx1 := impl_spread_left.cell_eq HBX.out.2.1 (hgb _ (Nat.le_refl _) (World.block_lt_of_cell? w3 _ HBX.out.1))
        have hx2 := impl_spread_left.cell_eq HBX.out.2.2 (hgb _ (Nat.le_refl _) (World.block_lt_of_cell? w3 _ HBX.out.1))
        by_cases hy : y + 1 < rows.length
        · obtain ⟨ad, A5, c5, r, hA6, hdr, hcell, hl5, hF5⟩ := impl_spread_left.elem N3.out (y + 1) hy
          cases hA6
          rw [add_at, Nat.zero_add] at hcell
          have hg6 : W.heap.size ≤ g6 := N3.out.1 g6 (by simp [Value.ownBlock])
          have hcr : wr.cell? ⟨g6, y + 1, none⟩ = some (.slice A5 r.length c5) := impl_spread_left.cell_eq hcell (hgb g6 hg6 (World.block_lt_of_cell? w3 _ hcell))
          have hcr2 : wr.cell? ⟨g6, 1 + y, none⟩ = some (.slice A5 r.length c5) := by rw [Nat.add_comm]; exact hcr
          have HCR := Aside0.mk (show Kd.C k54 wr A5 r.length r from hF5 wr (fun k h1 h2 => hgb k h1 h2))
          have HCP := Aside0.mk (show Kd.C k54 wr A pairs.length pairs from impl_spread_left.C_grown (Kd.C_below HC.out B3.out) HGW.out HA.out)
          have HL5 := Aside0.mk hl5
          have hrm : r ∈ rows := List.mem_of_mem_drop (i := y + 1) (by rw [hdr]; simp)
          have hrm1 : r ∈ rows.drop 1 := by
            have h1 : r ∈ (rows.drop 1).drop y := by rw [List.drop_drop, Nat.add_comm, hdr]; simp
            exact List.mem_of_mem_drop h1
          have hrx := impl_spread_left.rounds_mem set pairs r (by rw [← HROWS.out]; exact hrm)
          have HBH := Aside0.mk (impl_spread_left.behind_f r (by omega) (fun x hx => hn x (hrx.2 x hx)) set)
          have HBR := Aside0.mk (impl_spread_left.bh_range set H01.out.1 H01.out.2 r)
          have HGR := Aside0.mk (show impl_spread_left.Good fr pairs k (impl_spread_left.bh set r) from (HG.out.resolve_left HNS.out) r (by rw [← HROWS.out]; exact hrm1))
          obtain rfl := HA29.out (by omega)
          have HDR := Aside0.mk hdr
          have HYY := Aside0.mk hy
          have y1 : decide ((y : Int) < ((rows.length - 1 : Nat) : Int)) = true := decide_eq_true (by omega)
          have y2 : ((y : Int) < ((rows.length - 1 : Nat) : Int)) = True := eq_true (by omega)
          have y3 : (y < rows.length - 1) = True := eq_true (by omega)
          clear hcell hl5 hF5 hrm hrm1 hrx hdr hy hgb hg6
          go_wp2_with fail
          have BD := Aside0.mk (below_drew1 (Below.refl wr.heap.size wr))
          refine start_ (n := 6) (S := fun w' => (w'.cell? ⟨W.heap.size, 0, none⟩ = some (.int .i64 fr) ∧ w'.cell? ⟨W.heap.size, 1, none⟩ = some (.slice A pairs.length cc) ∧ w'.cell? ⟨W.heap.size, 2, none⟩ = some (.map (some b)))) (ds := [4]) #[false, false, false, false, false, false] (by kernel_rfl) rfl rfl ⟨hx0, hx1, hx2⟩ (fun hHeld => ?_); refine with_tabW impl_spread_left.tab10 impl_spread_left.bits10 (fun HT_ HW_ => ?_)
          generalize wr.drew = wd at BD hHeld ⊢
          refine pure_ (i := 1) (N := some 36) (v := ?_) (a' := ?_) #[false, true, false, false, false, false] rfl rfl (any_of HT_.out (by kernel_rfl)) (fun _ _ _ h => h) (Or.inl ⟨by rfl, ?_⟩) ?_ ?_
          rotate_left
          · intro w'
            go_simp
            with_reducible rfl
          rotate_left
          · simp only [Act.put, List.setIfInBounds_toArray, List.set_cons_zero, List.set_cons_succ, i64_w, i32_w]
            rfl
          refine pure_ (i := 2) (N := some 37) (v := ?_) (a' := ?_) #[false, true, true, false, false, false] rfl rfl (any_of HT_.out (by kernel_rfl)) (fun _ _ _ h => h) (Or.inl ⟨by rfl, ?_⟩) ?_ ?_
          rotate_left
          · intro w'
            go_simp
            with_reducible rfl
          rotate_left
          · simp only [Act.put, List.setIfInBounds_toArray, List.set_cons_zero, List.set_cons_succ, i64_w, i32_w]
            rfl
          refine take_ (i := 0) (N := some 35) (v := ?_) (a' := ?_) #[true, true, true, false, false, false] rfl rfl (take_ofW HT_.out HW_.out (by kernel_rfl)) (fun _ _ _ h => h) (Or.inl ⟨by rfl, ?_⟩) hHeld ?_ ?_
          rotate_left
          · rintro w' ⟨s0, s1, s2⟩
            go_simp
            with_reducible rfl
          rotate_left
          · simp only [Act.put, List.setIfInBounds_toArray, List.set_cons_zero, List.set_cons_succ, i64_w, i32_w]
            rfl
          refine one_ (i := 3) (N := some 38) #[true, true, true, true, false, false] rfl rfl (one_of HT_.out (by kernel_rfl)) (by decide) (fun K hK => ?_)
          refine goes_ Try.func38 (by kernel_rfl) rfl #[.int .u16 set, .slice A5 r.length c5] (by rfl) rfl rfl (by (try simp only [List.map_toArray, List.map_cons, List.map_nil]); rfl) ?_
          refine (impl_behind.calls 1001 set A5 c5 r (impl_spread_left.bh set r) wd (Kd.C_below HCR.out BD.out) HL5.out HBH.out).mono ?_
          rintro e w4 ⟨rfl, hb4⟩
          refine ⟨_, rfl, ?_⟩
          have B4 := Aside0.mk (below_step BD.out hb4)
          have S4 := Aside0.mk (show (w4.cell? ⟨W.heap.size, 0, none⟩ = some (.int .i64 fr) ∧ w4.cell? ⟨W.heap.size, 1, none⟩ = some (.slice A pairs.length cc) ∧ w4.cell? ⟨W.heap.size, 2, none⟩ = some (.map (some b))) from ⟨(hb4.cell (World.block_lt_of_cell? _ _ hHeld.1)).trans hHeld.1, (hb4.cell (World.block_lt_of_cell? _ _ hHeld.2.1)).trans hHeld.2.1, (hb4.cell (World.block_lt_of_cell? _ _ hHeld.2.2)).trans hHeld.2.2⟩)
          clear hb4
          refine hK.out _ _ S4.out (fun hHeld => ?_)
          clear hK K
          refine norm_ (a' := ?_) ?_ ?_
          rotate_left
          · show Act.put _ (some 38) _ = _
            simp only [Act.put, List.setIfInBounds_toArray, List.set_cons_zero, List.set_cons_succ, i64_w, i32_w]
            rfl
          refine last_ (i := 4) (N := some 39) #[true, true, true, true, true, false] rfl rfl (one_of HT_.out (by kernel_rfl)) (by decide) (fun K hK => ?_)
          have hih := ih (by omega) (impl_spread_left.bh set r) w4 HBR.out.1 HBR.out.2 HGR.out (HMM.out.below B4.out) (Kd.C_below HCP.out B4.out) HA.out
          refine goes_ Try.func43 (by kernel_rfl) rfl #[.agg #[.int .i64 fr, .slice A pairs.length cc, .map (some b)], .int .u16 (impl_spread_left.bh set r)] (by rfl) rfl rfl (by (try simp only [List.map_toArray, List.map_cons, List.map_nil]); rfl) ?_
          refine hih.mono ?_
          clear hih
          rintro e w5 ⟨rfl, hM5, hG5⟩
          refine ⟨_, rfl, ?_⟩
          have M5 := Aside0.mk hM5
          have G5 := Aside0.mk (show w3.grownBy w5 (some b) from impl_spread_left.grown_trans (impl_spread_left.grown_below HGW.out B4.out) hG5)
          clear hM5 hG5
          refine hK.out _ _ ?_
          clear hK K
          refine norm_ (a' := ?_) ?_ ?_
          rotate_left
          · show Act.put _ (some 39) _ = _
            simp only [Act.put, List.setIfInBounds_toArray, List.set_cons_zero, List.set_cons_succ, i64_w, i32_w]
            rfl
          obtain ⟨nn, hnn⟩ : ∃ nn, nn = impl_spread_left.D fr pairs (impl_spread_left.bh set r) := ⟨_, rfl⟩
          have HND := Aside0.mk (impl_spread_left.D_bound fr pairs (impl_spread_left.bh set r))
          rw [← hnn] at HND ⊢
          refine pure_ (i := 5) (N := some 10) (v := ?_) (a' := ?_) #[true, true, true, true, true, true] rfl rfl (any_of HT_.out (by kernel_rfl)) (fun _ _ _ h => h) (Or.inl ⟨by rfl, ?_⟩) ?_ ?_
          rotate_left
          · intro w'
            go_simp
            with_reducible rfl
          rotate_left
          · simp only [Act.put, List.setIfInBounds_toArray, List.set_cons_zero, List.set_cons_succ, i64_w, i32_w]
            rfl
          refine done_ (done_of HT_.out (by kernel_rfl)) ?_
          rw [← hnn]
          have HNN := Aside0.mk hnn
          have hw : wrap64 (nn + 1) = nn + 1 := by have := HND.out; unfold wrap64; omega
          have hw2 : IntKind.i64.wrap (nn + 1) = nn + 1 := (i64_w _).trans hw
          have HWY := Aside0.mk (show wrap64 ((y : Int) + 1) = ((y + 1 : Nat) : Int) by have := HYY.out; have := hbd set; rw [← HROWS.out] at this; unfold wrap64; omega)
          clear hnn hx0 hx1 hx2 y1 y2 y3 hcr hcr2
          have fin : ∀ best' : Int, best' = impl_spread_left.one nn best → ∃ (y' : Nat) (b' : Int), Value.int .i64 best' = .int .i64 b' ∧ Value.int .i64 (wrap64 ((y : Int) + 1)) = .int .i64 (y' : Int) ∧ Aside0 (y' + 1 ≤ rows.length ∧ rows.length + 1 - y' ≤ rows.length + 1 - (y + 1)) ∧ Aside0 (-1 ≤ b' ∧ b' ≤ 301) ∧ Aside0 ((rows.drop (y' + 1)).foldl (fun best r => impl_spread_left.one (impl_spread_left.D fr pairs (impl_spread_left.bh set r)) best) b' = impl_spread_left.D fr pairs set) ∧ Aside0 (impl_spread_left.Memo fr pairs b w5) ∧ Aside0 (w3.grownBy w5 (some b)) := by
            intro best' hb'
            refine ⟨y + 1, best', rfl, by rw [HWY.out], ⟨by have := HYY.out; omega, by omega⟩, ⟨?_⟩, ⟨?_⟩, M5, G5⟩
            · have := HND.out
              have := HBE.out
              rw [hb']
              unfold impl_spread_left.one
              split <;> omega
            · have h := HE.out
              rw [HDR.out, List.foldl_cons, ← HNN.out, ← hb'] at h
              exact h
          have FIN := Aside0.mk fin
          clear fin
          by_cases n1 : 0 ≤ nn
          · have a1 : decide (0 ≤ nn) = true := decide_eq_true n1
            have a2 : (0 ≤ nn) = True := eq_true n1
            have a3 : decide (nn ≥ 0) = true := decide_eq_true n1
            by_cases n2 : best < 0
            · have b1 : decide (best < 0) = true := decide_eq_true n2
              have b2 : (best < 0) = True := eq_true n2
              have FI := Aside0.mk (FIN.out (nn + 1) (by unfold impl_spread_left.one; rw [if_pos ⟨n1, .inl n2⟩]))
              clear n1 n2
              go_wp2
              go_roundg (rows.length + 1 - (y + 1))
              case measure => have := HY.out; have := HYY.out; omega
              case rel => exact FI.out
            · have b1 : decide (best < 0) = false := decide_eq_false n2
              have b2 : (best < 0) = False := eq_false n2
              by_cases n3 : nn + 1 < best
              · have c1 : decide (nn + 1 < best) = true := decide_eq_true n3
                have c2 : (nn + 1 < best) = True := eq_true n3
                have FI := Aside0.mk (FIN.out (nn + 1) (by unfold impl_spread_left.one; rw [if_pos ⟨n1, .inr n3⟩]))
                clear n1 n2 n3
                go_wp2
                go_roundg (rows.length + 1 - (y + 1))
                case measure => have := HY.out; have := HYY.out; omega
                case rel => exact FI.out
              · have c1 : decide (nn + 1 < best) = false := decide_eq_false n3
                have c2 : (nn + 1 < best) = False := eq_false n3
                have FI := Aside0.mk (FIN.out best (by unfold impl_spread_left.one; rw [if_neg (fun h => h.2.elim n2 n3)]))
                clear n1 n2 n3
                go_wp2
                go_roundg (rows.length + 1 - (y + 1))
                case measure => have := HY.out; have := HYY.out; omega
                case rel => exact FI.out
          · have a1 : decide (0 ≤ nn) = false := decide_eq_false n1
            have a2 : (0 ≤ nn) = False := eq_false n1
            have a3 : decide (nn ≥ 0) = false := decide_eq_false n1
            have FI := Aside0.mk (FIN.out best (by unfold impl_spread_left.one; rw [if_neg (fun h => n1 h.1)]))
            clear n1
            go_wp2
            go_roundg (rows.length + 1 - (y + 1))
            case measure => have := HY.out; have := HYY.out; omega
            case rel => exact FI.out
        · have y1 : decide ((y : Int) < ((rows.length - 1 : Nat) : Int)) = false := decide_eq_false (by omega)
          have y2 : ((y : Int) < ((rows.length - 1 : Nat) : Int)) = False := eq_false (by omega)
          have y3 : (y < rows.length - 1) = False := eq_false (by omega)
          have HYY := Aside0.mk hy
          have eb : best = impl_spread_left.D fr pairs set := by
            have h := HE.out
            rw [List.drop_eq_nil_of_le (by omega)] at h
            exact h
          subst eb
          obtain ⟨w6, hrun, hM6, hg6⟩ := impl_spread_left.put HMM.out H01.out.1 H01.out.2
          have M6 := Aside0.mk hM6
          have G6 := Aside0.mk (impl_spread_left.grown_trans HGW.out hg6)
          clear hy hgb hM6 hg6
          go_wp2
          go_ret
          exact ⟨rfl, M6.out, impl_spread_left.grown_trans ⟨B3.out.os, B3.out.tape, B3.out.output, B3.out.size, fun i hi _ => B3.out.block i hi⟩ G6.out⟩


/-! ### impl_isCall: function 66 -/
def impl_isCall.f (a0 : Int) (a1_0 : Int) (a1_1 : Int) : Option (Bool) := if a1_0 ≥ 0 then (if a1_0 < a1_1 then (some (decide (a1_1 < a0))) else (some false)) else (some false)
set_option maxHeartbeats 8000000 in
set_option maxRecDepth 100000 in
theorem impl_isCall.calls (a0 : Int) (a1_0 : Int) (a1_1 : Int) (r : Bool) (w : World) (h : impl_isCall.f a0 a1_0 a1_1 = some r) :
    Calls Try.prog 66 #[.int .i64 a0, .agg #[.int .i64 a1_0, .int .i64 a1_1]] w fun e w' => e = .returned (.bool r) ∧ Below w.heap.size w w' := by
  have hu54 := Try.underlying54
  have HB := Aside0.mk (Below.refl w.heap.size w)
  have H : (if a1_0 ≥ 0 then (if a1_0 < a1_1 then (some (decide (a1_1 < a0))) else (some false)) else (some false)) = some r := h
  clear h
  by_cases c3 : a1_0 ≥ 0
  · rw [if_pos c3] at H
    have c3b0 : decide (0 ≤ a1_0) = true := decide_eq_true c3
    clear c3
    by_cases c4 : a1_0 < a1_1
    · rw [if_pos c4] at H
      have c4b0 : decide (a1_0 < a1_1) = true := decide_eq_true c4
      clear c4
      obtain rfl := Option.some.inj H
      go_enter Try.func66, Try.ntmps66
      go_wp2_with (first | ((with_reducible refine gate_dst (N := 3) rfl ?_); refine box_event ?hg (N := 3) ?hd (cs := #[.int .i64 a1_0, .int .i64 a1_1]) (t := 54) ?hr ?_; (case hd => rfl); (case hg => rfl); (case hr => first | (go_simp; done) | (go_simp; rfl)); intro gb204 hg w5 hbox hb; have n0_ := Aside0.mk (below_step (by repeat (first | (with_reducible first | exact HB.out | apply below_alloc | apply pw_below_drewN | apply below_drew1) | exact HB.out)) hb); have n1_ := Aside0.mk (hbox); have n2_ := Aside0.mk ((by rw [hg]; exact (below_size (by repeat (first | (with_reducible first | exact HB.out | apply below_alloc | apply pw_below_drewN | apply below_drew1) | exact HB.out))) : w.heap.size ≤ gb204)); have n3_ := Aside0.mk ((by rw [hg]; exact (below_size (by repeat (first | (with_reducible first | exact HB.out | apply below_alloc | apply pw_below_drewN | apply below_drew1) | exact HB.out))) : w.heap.size ≤ gb204)); clear HB; have HB := n0_; have BK204 := n1_; have GW204 := n2_; have GE204 := n3_; clear n0_ n1_ n2_ n3_; clear hb hbox hg; have hcz6_0 : w5.cell? ⟨gb204, 0, none⟩ = some (.int .i64 a1_0) := (blk_cell BK204.out 0).trans rfl; have hcz6_1 : w5.cell? ⟨gb204, 1, none⟩ = some (.int .i64 a1_1) := (blk_cell BK204.out 1).trans rfl; have hfz6_0 := blk_frozen BK204.out 0; have hfz6_1 := blk_frozen BK204.out 1))
      go_ret
      exact ⟨by first | rfl | (simp [errW_none, errW_some] <;> rfl) | (simp [*, errW_none, errW_some] <;> rfl), by repeat (first | (with_reducible first | exact HB.out | apply below_alloc | apply pw_below_drewN | apply below_drew1 | refine below_set ?_ GE204.out) | exact HB.out)⟩
    · rw [if_neg c4] at H
      have c4b0 : decide (a1_0 < a1_1) = false := decide_eq_false c4
      clear c4
      obtain rfl := Option.some.inj H
      go_enter Try.func66, Try.ntmps66
      go_wp2_with (first | ((with_reducible refine gate_dst (N := 3) rfl ?_); refine box_event ?hg (N := 3) ?hd (cs := #[.int .i64 a1_0, .int .i64 a1_1]) (t := 54) ?hr ?_; (case hd => rfl); (case hg => rfl); (case hr => first | (go_simp; done) | (go_simp; rfl)); intro gb204 hg w7 hbox hb; have n0_ := Aside0.mk (below_step (by repeat (first | (with_reducible first | exact HB.out | apply below_alloc | apply pw_below_drewN | apply below_drew1) | exact HB.out)) hb); have n1_ := Aside0.mk (hbox); have n2_ := Aside0.mk ((by rw [hg]; exact (below_size (by repeat (first | (with_reducible first | exact HB.out | apply below_alloc | apply pw_below_drewN | apply below_drew1) | exact HB.out))) : w.heap.size ≤ gb204)); have n3_ := Aside0.mk ((by rw [hg]; exact (below_size (by repeat (first | (with_reducible first | exact HB.out | apply below_alloc | apply pw_below_drewN | apply below_drew1) | exact HB.out))) : w.heap.size ≤ gb204)); clear HB; have HB := n0_; have BK204 := n1_; have GW204 := n2_; have GE204 := n3_; clear n0_ n1_ n2_ n3_; clear hb hbox hg; have hcz8_0 : w7.cell? ⟨gb204, 0, none⟩ = some (.int .i64 a1_0) := (blk_cell BK204.out 0).trans rfl; have hcz8_1 : w7.cell? ⟨gb204, 1, none⟩ = some (.int .i64 a1_1) := (blk_cell BK204.out 1).trans rfl; have hfz8_0 := blk_frozen BK204.out 0; have hfz8_1 := blk_frozen BK204.out 1))
      go_ret
      exact ⟨by first | rfl | (simp [errW_none, errW_some] <;> rfl) | (simp [*, errW_none, errW_some] <;> rfl), by repeat (first | (with_reducible first | exact HB.out | apply below_alloc | apply pw_below_drewN | apply below_drew1 | refine below_set ?_ GE204.out) | exact HB.out)⟩
  · rw [if_neg c3] at H
    have c3b0 : decide (0 ≤ a1_0) = false := decide_eq_false c3
    clear c3
    obtain rfl := Option.some.inj H
    go_enter Try.func66, Try.ntmps66
    go_wp2_with (first | ((with_reducible refine gate_dst (N := 3) rfl ?_); refine box_event ?hg (N := 3) ?hd (cs := #[.int .i64 a1_0, .int .i64 a1_1]) (t := 54) ?hr ?_; (case hd => rfl); (case hg => rfl); (case hr => first | (go_simp; done) | (go_simp; rfl)); intro gb204 hg w9 hbox hb; have n0_ := Aside0.mk (below_step (by repeat (first | (with_reducible first | exact HB.out | apply below_alloc | apply pw_below_drewN | apply below_drew1) | exact HB.out)) hb); have n1_ := Aside0.mk (hbox); have n2_ := Aside0.mk ((by rw [hg]; exact (below_size (by repeat (first | (with_reducible first | exact HB.out | apply below_alloc | apply pw_below_drewN | apply below_drew1) | exact HB.out))) : w.heap.size ≤ gb204)); have n3_ := Aside0.mk ((by rw [hg]; exact (below_size (by repeat (first | (with_reducible first | exact HB.out | apply below_alloc | apply pw_below_drewN | apply below_drew1) | exact HB.out))) : w.heap.size ≤ gb204)); clear HB; have HB := n0_; have BK204 := n1_; have GW204 := n2_; have GE204 := n3_; clear n0_ n1_ n2_ n3_; clear hb hbox hg; have hcz10_0 : w9.cell? ⟨gb204, 0, none⟩ = some (.int .i64 a1_0) := (blk_cell BK204.out 0).trans rfl; have hcz10_1 : w9.cell? ⟨gb204, 1, none⟩ = some (.int .i64 a1_1) := (blk_cell BK204.out 1).trans rfl; have hfz10_0 := blk_frozen BK204.out 0; have hfz10_1 := blk_frozen BK204.out 1))
    go_ret
    exact ⟨by first | rfl | (simp [errW_none, errW_some] <;> rfl) | (simp [*, errW_none, errW_some] <;> rfl), by repeat (first | (with_reducible first | exact HB.out | apply below_alloc | apply pw_below_drewN | apply below_drew1 | refine below_set ?_ GE204.out) | exact HB.out)⟩

/-! ### cmp_Or_int: function 76 -/
def cmp_Or_int.l0 : Nat → Int → List Int → Int → Int → Option (Int)
  | 0, _, _, _, _ => none
  | k + 1, x3, x6, x7, x8 => if x8 < x7 then (if 0 ≤ x8 then (if x8 < (x6.length : Int) then (if (rd x6 x8) = x3 then (cmp_Or_int.l0 k x3 x6 x7 (wrap64 (x8 + 1))) else (some (rd x6 x8))) else (none)) else (none)) else (some x3)
def cmp_Or_int.f (k : Nat) (l0 : List Int) : Option (Int) := cmp_Or_int.l0 k 0 l0 (l0.length : Int) 0
theorem cmp_Or_int.mono_l : ∀ k, (∀ y0 y1 y2 y3, LeO (cmp_Or_int.l0 k y0 y1 y2 y3) (cmp_Or_int.l0 (k + 1) y0 y1 y2 y3))
  | 0 => fun _ _ _ _ r h => by simp [cmp_Or_int.l0] at h
  | k + 1 => by
    have ih0 := cmp_Or_int.mono_l k
    · intro y0 y1 y2 y3
      unfold cmp_Or_int.l0
      repeat' first
      | (with_reducible exact ih0 _ _ _ _)
      | (with_reducible exact LeO.refl _)
      | (with_reducible exact LeO.none _)
      | (with_reducible refine LeO.ite ?_ ?_)
      | (with_reducible refine LeO.bind ?_ (fun _ => ?_))
      | exact ih0 _ _ _ _
      | exact LeO.none _
      | refine LeO.ite ?_ ?_
      | refine LeO.bind ?_ (fun _ => ?_)
theorem cmp_Or_int.mono : ∀ a0 k, LeO (cmp_Or_int.f k a0) (cmp_Or_int.f (k + 1) a0) := by
  intro a0 k
  have ih0 := cmp_Or_int.mono_l k
  unfold cmp_Or_int.f
  repeat' first
      | (with_reducible exact ih0 _ _ _ _)
      | (with_reducible exact LeO.refl _)
      | (with_reducible exact LeO.none _)
      | (with_reducible refine LeO.ite ?_ ?_)
      | (with_reducible refine LeO.bind ?_ (fun _ => ?_))
      | exact ih0 _ _ _ _
      | exact LeO.none _
      | refine LeO.ite ?_ ?_
      | refine LeO.bind ?_ (fun _ => ?_)
set_option maxHeartbeats 8000000 in
set_option maxRecDepth 100000 in
theorem cmp_Or_int.calls (k : Nat) (A0 : Option Addr) (c0 : Nat) (l0 : List Int) (r : Int) (w : World) (hr0 : Kd.C (Kd.int .i64) w A0 l0.length l0) (hc0 : l0.length ≤ c0) (h : cmp_Or_int.f k l0 = some r) :
    Calls Try.prog 76 #[.slice A0 l0.length c0] w fun e w' => e = .returned (.int .i64 r) ∧ Drawn0 w w' := by
  have HR0 := Aside0.mk hr0
  have HC0 := Aside0.mk hc0
  clear hr0 hc0
  have H : (cmp_Or_int.l0 k 0 l0 (l0.length : Int) 0) = some r := h
  clear h
  have H' := Aside0.mk H
  clear H
  go_enter Try.func76, Try.ntmps76
  go_wp2
  go_loopg [8] k (fun kq v8 w' => ∃ (x8_1 : Int), v8 = .int .i64 x8_1 ∧ Aside0 (cmp_Or_int.l0 kq 0 l0 (l0.length : Int) x8_1 = some r) ∧ Aside0 (kq ≤ k) ∧ Drawn0 w w')
  case atStart => exact ⟨(0), (by first | rfl | (simp; done) | (simp [*]; done)), H', ⟨Nat.le_refl _⟩, by repeat (first | exact Drawn0.refl _ | apply Drawn0.step)⟩
  case round =>
    clear H'
    obtain ⟨x8_1, rfl, HA, HK1, ⟨m1, rfl⟩⟩ := hrel
    cases gk with
    | zero => exact absurd HA.out (by simp [cmp_Or_int.l0])
    | succ k1 =>
      have H := HA.out
      clear HA
      simp only [cmp_Or_int.l0] at H
      by_cases c2 : x8_1 < (l0.length : Int)
      · rw [if_pos c2] at H
        have c2b0 : decide (x8_1 < (l0.length : Int)) = true := decide_eq_true c2
        clear c2
        by_cases c3 : 0 ≤ x8_1
        · rw [if_pos c3] at H
          have c3b0 : decide (0 ≤ x8_1) = true := decide_eq_true c3
          clear c3
          by_cases c4 : x8_1 < (l0.length : Int)
          · rw [if_pos c4] at H
            have c4b0 : decide (x8_1 < (l0.length : Int)) = true := decide_eq_true c4
            clear c4
            by_cases c5 : (rd l0 x8_1) = 0
            · rw [if_pos c5] at H
              have c5b0 : ((rd l0 x8_1) == 0) = true := beq_iff_eq.mpr c5
              have c5b1 : ((rd l0 x8_1) != 0) = false := bne_eq_false_iff_eq.mpr c5
              clear c5
              have H' := Aside0.mk H
              clear H
              have p205 : 0 ≤ (x8_1 : Int) := of_decide_eq_true (by first | (with_reducible assumption) | assumption)
              have q205 : x8_1 < (l0.length : Int) := of_decide_eq_true (by first | (with_reducible assumption) | assumption)
              obtain ⟨ad205, e205, hx205_0⟩ := Kd.at_int HR0.out x8_1 p205 q205
              cases e205
              replace p205 := eq_true p205
              replace q205 := eq_true q205
              go_wp2
              go_roundg k1
              case measure => have := HK1.out; omega
              case rel => exact ⟨(wrap64 (x8_1 + 1)), (by first | rfl | (simp; done) | (simp [*]; done)), H', ⟨by have := HK1.out; omega⟩, by repeat (first | exact Drawn0.refl _ | apply Drawn0.step)⟩
            · rw [if_neg c5] at H
              have c5b0 : ((rd l0 x8_1) == 0) = false := beq_eq_false_iff_ne.mpr c5
              have c5b1 : ((rd l0 x8_1) != 0) = true := bne_iff_ne.mpr c5
              obtain rfl := Option.some.inj H
              have p205 : 0 ≤ (x8_1 : Int) := of_decide_eq_true (by first | (with_reducible assumption) | assumption)
              have q205 : x8_1 < (l0.length : Int) := of_decide_eq_true (by first | (with_reducible assumption) | assumption)
              obtain ⟨ad205, e205, hx205_0⟩ := Kd.at_int HR0.out x8_1 p205 q205
              cases e205
              replace p205 := eq_true p205
              replace q205 := eq_true q205
              go_wp2
              go_ret
              exact ⟨by first | rfl | (simp; done) | (simp [*]; done), by repeat (first | exact Drawn0.refl _ | apply Drawn0.step)⟩
          · rw [if_neg c4] at H
            exact absurd H (by simp)
        · rw [if_neg c3] at H
          exact absurd H (by simp)
      · rw [if_neg c2] at H
        have c2b0 : decide (x8_1 < (l0.length : Int)) = false := decide_eq_false c2
        clear c2
        obtain rfl := Option.some.inj H
        go_wp2
        go_ret
        exact ⟨by first | rfl | (simp; done) | (simp [*]; done), by repeat (first | exact Drawn0.refl _ | apply Drawn0.step)⟩

/-! ### cmp_isNaN_int: function 81 -/
def cmp_isNaN_int.f (a0 : Int) : Option (Bool) := some (a0 != a0)
set_option maxHeartbeats 8000000 in
set_option maxRecDepth 100000 in
theorem cmp_isNaN_int.calls (a0 : Int) (r : Bool) (w : World) (h : cmp_isNaN_int.f a0 = some r) :
    Calls Try.prog 81 #[.int .i64 a0] w fun e w' => e = .returned (.bool r) ∧ Drawn0 w w' := by
  have H : (some (a0 != a0)) = some r := h
  clear h
  obtain rfl := Option.some.inj H
  go_enter Try.func81, Try.ntmps81
  go_wp2
  go_ret
  exact ⟨by first | rfl | (simp; done) | (simp [*]; done), by repeat (first | exact Drawn0.refl _ | apply Drawn0.step)⟩

/-! ### cmp_Compare_int: function 77 -/
def cmp_Compare_int.f (a0 : Int) (a1 : Int) : Option (Int) := (cmp_isNaN_int.f a0).bind fun t206 => ((cmp_isNaN_int.f a1).bind fun t207 => (if t206 = true then (if t207 = true then (some 0) else (some (-1))) else (if t207 = true then (some 1) else (if a0 < a1 then (some (-1)) else (if a0 > a1 then (some 1) else (some 0))))))
set_option maxHeartbeats 8000000 in
set_option maxRecDepth 100000 in
theorem cmp_Compare_int.calls (a0 : Int) (a1 : Int) (r : Int) (w : World) (h : cmp_Compare_int.f a0 a1 = some r) :
    Calls Try.prog 77 #[.int .i64 a0, .int .i64 a1] w fun e w' => e = .returned (.int .i64 r) ∧ Drawn0 w w' := by
  have H : ((cmp_isNaN_int.f a0).bind fun t206 => ((cmp_isNaN_int.f a1).bind fun t207 => (if t206 = true then (if t207 = true then (some 0) else (some (-1))) else (if t207 = true then (some 1) else (if a0 < a1 then (some (-1)) else (if a0 > a1 then (some 1) else (some 0))))))) = some r := h
  clear h
  replace H := Option.bind_eq_some_iff.mp H
  obtain ⟨t206, A30, H⟩ := H
  replace H : ((cmp_isNaN_int.f a1).bind fun t207 => (if t206 = true then (if t207 = true then (some 0) else (some (-1))) else (if t207 = true then (some 1) else (if a0 < a1 then (some (-1)) else (if a0 > a1 then (some 1) else (some 0)))))) = some r := H
  have A3 := Aside0.mk A30
  clear A30
  replace H := Option.bind_eq_some_iff.mp H
  obtain ⟨t207, A40, H⟩ := H
  replace H : (if t206 = true then (if t207 = true then (some 0) else (some (-1))) else (if t207 = true then (some 1) else (if a0 < a1 then (some (-1)) else (if a0 > a1 then (some 1) else (some 0))))) = some r := H
  have A4 := Aside0.mk A40
  clear A40
  by_cases c5 : t206 = true
  · subst c5
    have H1 : (if t207 = true then (some 0) else (some (-1))) = some r := by rw [if_pos rfl] at H; exact H
    clear H
    have H := H1
    clear H1
    by_cases c6 : t207 = true
    · subst c6
      have H1 : (some 0) = some r := by rw [if_pos rfl] at H; exact H
      clear H
      have H := H1
      clear H1
      obtain rfl := Option.some.inj H
      go_enter Try.func77, Try.ntmps77
      go_wp2_with (first | ((with_reducible refine gate_callee (f := 81) rfl ?_); refine goesL_ (some 8) rfl rfl Try.func81 (by kernel_rfl) rfl #[.int .i64 a0] rfl (by (try simp only [List.map_toArray, List.map_cons, List.map_nil]); first | done | rfl | (simp only [List.length_drop, List.length_take]; rfl) | (simp; done) | (refine congrArg Value.bool ?_; simp; done) | (refine congrArg (fun z_ => #[Value.bool z_]) ?_; simp; done)) ?_; (with_reducible refine (cmp_isNaN_int.calls a0 true _ A3.out).mono ?_); rintro e w' ⟨rfl, ⟨nd, rfl⟩⟩; refine ⟨_, rfl, ?_⟩) | ((with_reducible refine gate_callee (f := 81) rfl ?_); refine goesL_ (some 10) rfl rfl Try.func81 (by kernel_rfl) rfl #[.int .i64 a1] rfl (by (try simp only [List.map_toArray, List.map_cons, List.map_nil]); first | done | rfl | (simp only [List.length_drop, List.length_take]; rfl) | (simp; done) | (refine congrArg Value.bool ?_; simp; done) | (refine congrArg (fun z_ => #[Value.bool z_]) ?_; simp; done)) ?_; (with_reducible refine (cmp_isNaN_int.calls a1 true _ A4.out).mono ?_); rintro e w' ⟨rfl, ⟨nd, rfl⟩⟩; refine ⟨_, rfl, ?_⟩))
      go_ret
      exact ⟨by first | rfl | (simp; done) | (simp [*]; done), by repeat (first | exact Drawn0.refl _ | apply Drawn0.step)⟩
    · replace c6 := Bool.eq_false_iff.mpr c6
      subst c6
      have H1 : (some (-1)) = some r := by rw [if_neg (show ¬ (false = true) by decide)] at H; exact H
      clear H
      have H := H1
      clear H1
      obtain rfl := Option.some.inj H
      go_enter Try.func77, Try.ntmps77
      go_wp2_with (first | ((with_reducible refine gate_callee (f := 81) rfl ?_); refine goesL_ (some 8) rfl rfl Try.func81 (by kernel_rfl) rfl #[.int .i64 a0] rfl (by (try simp only [List.map_toArray, List.map_cons, List.map_nil]); first | done | rfl | (simp only [List.length_drop, List.length_take]; rfl) | (simp; done) | (refine congrArg Value.bool ?_; simp; done) | (refine congrArg (fun z_ => #[Value.bool z_]) ?_; simp; done)) ?_; (with_reducible refine (cmp_isNaN_int.calls a0 true _ A3.out).mono ?_); rintro e w' ⟨rfl, ⟨nd, rfl⟩⟩; refine ⟨_, rfl, ?_⟩) | ((with_reducible refine gate_callee (f := 81) rfl ?_); refine goesL_ (some 10) rfl rfl Try.func81 (by kernel_rfl) rfl #[.int .i64 a1] rfl (by (try simp only [List.map_toArray, List.map_cons, List.map_nil]); first | done | rfl | (simp only [List.length_drop, List.length_take]; rfl) | (simp; done) | (refine congrArg Value.bool ?_; simp; done) | (refine congrArg (fun z_ => #[Value.bool z_]) ?_; simp; done)) ?_; (with_reducible refine (cmp_isNaN_int.calls a1 false _ A4.out).mono ?_); rintro e w' ⟨rfl, ⟨nd, rfl⟩⟩; refine ⟨_, rfl, ?_⟩))
      go_ret
      exact ⟨by first | rfl | (simp; done) | (simp [*]; done), by repeat (first | exact Drawn0.refl _ | apply Drawn0.step)⟩
  · replace c5 := Bool.eq_false_iff.mpr c5
    subst c5
    have H1 : (if t207 = true then (some 1) else (if a0 < a1 then (some (-1)) else (if a0 > a1 then (some 1) else (some 0)))) = some r := by rw [if_neg (show ¬ (false = true) by decide)] at H; exact H
    clear H
    have H := H1
    clear H1
    by_cases c7 : t207 = true
    · subst c7
      have H1 : (some 1) = some r := by rw [if_pos rfl] at H; exact H
      clear H
      have H := H1
      clear H1
      obtain rfl := Option.some.inj H
      go_enter Try.func77, Try.ntmps77
      go_wp2_with (first | ((with_reducible refine gate_callee (f := 81) rfl ?_); refine goesL_ (some 8) rfl rfl Try.func81 (by kernel_rfl) rfl #[.int .i64 a0] rfl (by (try simp only [List.map_toArray, List.map_cons, List.map_nil]); first | done | rfl | (simp only [List.length_drop, List.length_take]; rfl) | (simp; done) | (refine congrArg Value.bool ?_; simp; done) | (refine congrArg (fun z_ => #[Value.bool z_]) ?_; simp; done)) ?_; (with_reducible refine (cmp_isNaN_int.calls a0 false _ A3.out).mono ?_); rintro e w' ⟨rfl, ⟨nd, rfl⟩⟩; refine ⟨_, rfl, ?_⟩) | ((with_reducible refine gate_callee (f := 81) rfl ?_); refine goesL_ (some 10) rfl rfl Try.func81 (by kernel_rfl) rfl #[.int .i64 a1] rfl (by (try simp only [List.map_toArray, List.map_cons, List.map_nil]); first | done | rfl | (simp only [List.length_drop, List.length_take]; rfl) | (simp; done) | (refine congrArg Value.bool ?_; simp; done) | (refine congrArg (fun z_ => #[Value.bool z_]) ?_; simp; done)) ?_; (with_reducible refine (cmp_isNaN_int.calls a1 true _ A4.out).mono ?_); rintro e w' ⟨rfl, ⟨nd, rfl⟩⟩; refine ⟨_, rfl, ?_⟩))
      go_ret
      exact ⟨by first | rfl | (simp; done) | (simp [*]; done), by repeat (first | exact Drawn0.refl _ | apply Drawn0.step)⟩
    · replace c7 := Bool.eq_false_iff.mpr c7
      subst c7
      have H1 : (if a0 < a1 then (some (-1)) else (if a0 > a1 then (some 1) else (some 0))) = some r := by rw [if_neg (show ¬ (false = true) by decide)] at H; exact H
      clear H
      have H := H1
      clear H1
      by_cases c8 : a0 < a1
      · rw [if_pos c8] at H
        have c8b0 : decide (a0 < a1) = true := decide_eq_true c8
        clear c8
        obtain rfl := Option.some.inj H
        go_enter Try.func77, Try.ntmps77
        go_wp2_with (first | ((with_reducible refine gate_callee (f := 81) rfl ?_); refine goesL_ (some 8) rfl rfl Try.func81 (by kernel_rfl) rfl #[.int .i64 a0] rfl (by (try simp only [List.map_toArray, List.map_cons, List.map_nil]); first | done | rfl | (simp only [List.length_drop, List.length_take]; rfl) | (simp; done) | (refine congrArg Value.bool ?_; simp; done) | (refine congrArg (fun z_ => #[Value.bool z_]) ?_; simp; done)) ?_; (with_reducible refine (cmp_isNaN_int.calls a0 false _ A3.out).mono ?_); rintro e w' ⟨rfl, ⟨nd, rfl⟩⟩; refine ⟨_, rfl, ?_⟩) | ((with_reducible refine gate_callee (f := 81) rfl ?_); refine goesL_ (some 10) rfl rfl Try.func81 (by kernel_rfl) rfl #[.int .i64 a1] rfl (by (try simp only [List.map_toArray, List.map_cons, List.map_nil]); first | done | rfl | (simp only [List.length_drop, List.length_take]; rfl) | (simp; done) | (refine congrArg Value.bool ?_; simp; done) | (refine congrArg (fun z_ => #[Value.bool z_]) ?_; simp; done)) ?_; (with_reducible refine (cmp_isNaN_int.calls a1 false _ A4.out).mono ?_); rintro e w' ⟨rfl, ⟨nd, rfl⟩⟩; refine ⟨_, rfl, ?_⟩))
        go_ret
        exact ⟨by first | rfl | (simp; done) | (simp [*]; done), by repeat (first | exact Drawn0.refl _ | apply Drawn0.step)⟩
      · rw [if_neg c8] at H
        have c8b0 : decide (a0 < a1) = false := decide_eq_false c8
        clear c8
        by_cases c9 : a0 > a1
        · rw [if_pos c9] at H
          have c9b0 : decide (a1 < a0) = true := decide_eq_true c9
          clear c9
          obtain rfl := Option.some.inj H
          go_enter Try.func77, Try.ntmps77
          go_wp2_with (first | ((with_reducible refine gate_callee (f := 81) rfl ?_); refine goesL_ (some 8) rfl rfl Try.func81 (by kernel_rfl) rfl #[.int .i64 a0] rfl (by (try simp only [List.map_toArray, List.map_cons, List.map_nil]); first | done | rfl | (simp only [List.length_drop, List.length_take]; rfl) | (simp; done) | (refine congrArg Value.bool ?_; simp; done) | (refine congrArg (fun z_ => #[Value.bool z_]) ?_; simp; done)) ?_; (with_reducible refine (cmp_isNaN_int.calls a0 false _ A3.out).mono ?_); rintro e w' ⟨rfl, ⟨nd, rfl⟩⟩; refine ⟨_, rfl, ?_⟩) | ((with_reducible refine gate_callee (f := 81) rfl ?_); refine goesL_ (some 10) rfl rfl Try.func81 (by kernel_rfl) rfl #[.int .i64 a1] rfl (by (try simp only [List.map_toArray, List.map_cons, List.map_nil]); first | done | rfl | (simp only [List.length_drop, List.length_take]; rfl) | (simp; done) | (refine congrArg Value.bool ?_; simp; done) | (refine congrArg (fun z_ => #[Value.bool z_]) ?_; simp; done)) ?_; (with_reducible refine (cmp_isNaN_int.calls a1 false _ A4.out).mono ?_); rintro e w' ⟨rfl, ⟨nd, rfl⟩⟩; refine ⟨_, rfl, ?_⟩))
          go_ret
          exact ⟨by first | rfl | (simp; done) | (simp [*]; done), by repeat (first | exact Drawn0.refl _ | apply Drawn0.step)⟩
        · rw [if_neg c9] at H
          have c9b0 : decide (a1 < a0) = false := decide_eq_false c9
          clear c9
          obtain rfl := Option.some.inj H
          go_enter Try.func77, Try.ntmps77
          go_wp2_with (first | ((with_reducible refine gate_callee (f := 81) rfl ?_); refine goesL_ (some 8) rfl rfl Try.func81 (by kernel_rfl) rfl #[.int .i64 a0] rfl (by (try simp only [List.map_toArray, List.map_cons, List.map_nil]); first | done | rfl | (simp only [List.length_drop, List.length_take]; rfl) | (simp; done) | (refine congrArg Value.bool ?_; simp; done) | (refine congrArg (fun z_ => #[Value.bool z_]) ?_; simp; done)) ?_; (with_reducible refine (cmp_isNaN_int.calls a0 false _ A3.out).mono ?_); rintro e w' ⟨rfl, ⟨nd, rfl⟩⟩; refine ⟨_, rfl, ?_⟩) | ((with_reducible refine gate_callee (f := 81) rfl ?_); refine goesL_ (some 10) rfl rfl Try.func81 (by kernel_rfl) rfl #[.int .i64 a1] rfl (by (try simp only [List.map_toArray, List.map_cons, List.map_nil]); first | done | rfl | (simp only [List.length_drop, List.length_take]; rfl) | (simp; done) | (refine congrArg Value.bool ?_; simp; done) | (refine congrArg (fun z_ => #[Value.bool z_]) ?_; simp; done)) ?_; (with_reducible refine (cmp_isNaN_int.calls a1 false _ A4.out).mono ?_); rintro e w' ⟨rfl, ⟨nd, rfl⟩⟩; refine ⟨_, rfl, ?_⟩))
          go_ret
          exact ⟨by first | rfl | (simp; done) | (simp [*]; done), by repeat (first | exact Drawn0.refl _ | apply Drawn0.step)⟩

end Go.Proofs.Ytoncbgjbkgdbaaa.PFnExactFirstSpread
