-- Written by a program of this claim, over the kit's print: the functions that a law reaches, their plain forms and the walks.
import Derived.Test.YtoncbgjbkgdbaaaPFnExactCentersOfx0
import Derived.Test.YtoncbgjbkgdbaaaPFnExactCentersOfx8
import Derived.Test.YtoncbgjbkgdbaaaPFnExactCentersOfx9
namespace Go.Proofs.Ytoncbgjbkgdbaaa.PFnExactCentersOf
open Go.RowKit Go.Proofs.YtoncbgjbkgdbaaaW.PrintWords Go.Proofs.YtoncbgjbkgdbaaaW.PrintLast Go.Proofs.YtoncbgjbkgdbaaaW.PrintMore
attribute [local go_sem] max2_int min2_int max_two min_two max_three min_three max_four min_four   -- for this text's walks alone
set_option linter.unusedVariables false
set_option linter.unusedSimpArgs false

/-! ### impl_spread_left: function 43 -/
/-- Who knows behind a round. -/
def impl_spread_left.bh (set : Int) (r : List S54) : Int := r.foldl (fun s c => Go.bits .or .u16 s (impl_matchings.own c)) set
/-- All know. -/
def impl_spread_left.full (fr : Int) : Int := IntKind.u16.wrap (shl .u16 1 fr - 1)
/-- One more round. -/
def impl_spread_left.one (n best : Int) : Int := if n ≥ 0 ∧ (best < 0 ∨ n + 1 < best) then n + 1 else best
/-- The least number of rounds, at most so many. -/
def impl_spread_left.dist (fr : Int) (pairs : List S54) : Nat → Int → Int
  | 0, set => if set = impl_spread_left.full fr then 0 else -1
  | k + 1, set => if set = impl_spread_left.full fr then 0 else ((impl_spread_rounds.rounds set pairs).drop 1).foldl (fun best r => impl_spread_left.one (impl_spread_left.dist fr pairs k (impl_spread_left.bh set r)) best) (-1)
/-- So many rounds do, whatever they are. -/
def impl_spread_left.Good (fr : Int) (pairs : List S54) : Nat → Int → Prop
  | 0, set => set = impl_spread_left.full fr
  | k + 1, set => set = impl_spread_left.full fr ∨ ∀ r ∈ (impl_spread_rounds.rounds set pairs).drop 1, impl_spread_left.Good fr pairs k (impl_spread_left.bh set r)
theorem impl_spread_left.foldl_same {α : Type} {f g : Int → α → Int} : ∀ (l : List α) (b : Int), (∀ b, ∀ r ∈ l, f b r = g b r) → l.foldl f b = l.foldl g b
  | [], _, _ => rfl
  | r :: l, b, h => by
    rw [List.foldl_cons, List.foldl_cons, h b r (by simp), impl_spread_left.foldl_same l _ (fun b r hr => h b r (by simp [hr]))]
theorem impl_spread_left.dist_up (fr : Int) (pairs : List S54) : ∀ (k : Nat) (set : Int), impl_spread_left.Good fr pairs k set → impl_spread_left.dist fr pairs (k + 1) set = impl_spread_left.dist fr pairs k set
  | 0, set, h => by
    have h' : set = impl_spread_left.full fr := h
    unfold impl_spread_left.dist
    rw [if_pos h', if_pos h']
  | k + 1, set, h => by
    unfold impl_spread_left.dist
    by_cases e : set = impl_spread_left.full fr
    · rw [if_pos e, if_pos e]
    · rw [if_neg e, if_neg e]
      refine impl_spread_left.foldl_same _ _ (fun b r hr => ?_)
      rw [impl_spread_left.dist_up fr pairs k _ ((h.resolve_left e) r hr)]
theorem impl_spread_left.good_up (fr : Int) (pairs : List S54) : ∀ (k : Nat) (set : Int), impl_spread_left.Good fr pairs k set → impl_spread_left.Good fr pairs (k + 1) set
  | 0, set, h => .inl h
  | k + 1, set, h => h.imp id (fun h r hr => impl_spread_left.good_up fr pairs k _ (h r hr))
/-- The least number of rounds. -/
def impl_spread_left.D (fr : Int) (pairs : List S54) (set : Int) : Int := impl_spread_left.dist fr pairs 300 set
theorem impl_spread_left.dist_le (fr : Int) (pairs : List S54) : ∀ (d k : Nat) (set : Int), impl_spread_left.Good fr pairs k set → impl_spread_left.dist fr pairs (k + d) set = impl_spread_left.dist fr pairs k set ∧ impl_spread_left.Good fr pairs (k + d) set
  | 0, k, set, h => ⟨rfl, h⟩
  | d + 1, k, set, h => by
    obtain ⟨h1, h2⟩ := impl_spread_left.dist_le fr pairs d k set h
    exact ⟨(impl_spread_left.dist_up fr pairs (k + d) set h2).trans h1, impl_spread_left.good_up fr pairs (k + d) set h2⟩
theorem impl_spread_left.D_eq (fr : Int) (pairs : List S54) (k : Nat) (hk : k ≤ 300) (set : Int) (h : impl_spread_left.Good fr pairs k set) : impl_spread_left.D fr pairs set = impl_spread_left.dist fr pairs k set := by
  have h2 := (impl_spread_left.dist_le fr pairs (300 - k) k set h).1
  rw [show k + (300 - k) = 300 by omega] at h2
  exact h2
theorem impl_spread_left.D_step (fr : Int) (pairs : List S54) (k : Nat) (hk : k + 1 ≤ 300) (set : Int) (hne : set ≠ impl_spread_left.full fr) (h : impl_spread_left.Good fr pairs (k + 1) set) : ((impl_spread_rounds.rounds set pairs).drop 1).foldl (fun best r => impl_spread_left.one (impl_spread_left.D fr pairs (impl_spread_left.bh set r)) best) (-1) = impl_spread_left.D fr pairs set := by
  rw [impl_spread_left.D_eq fr pairs (k + 1) hk set h]
  unfold impl_spread_left.dist
  rw [if_neg hne]
  refine impl_spread_left.foldl_same _ _ (fun b r hr => ?_)
  rw [impl_spread_left.D_eq fr pairs k (by omega) _ ((h.resolve_left hne) r hr)]
theorem impl_spread_left.fold_bound {f : Int → List S54 → Int} (m : Int) (hf : ∀ b r, -1 ≤ b → b ≤ m → -1 ≤ f b r ∧ f b r ≤ m) : ∀ (l : List (List S54)) (b : Int), -1 ≤ b → b ≤ m → -1 ≤ l.foldl f b ∧ l.foldl f b ≤ m
  | [], b, h1, h2 => ⟨h1, h2⟩
  | r :: l, b, h1, h2 => impl_spread_left.fold_bound m hf l _ (hf b r h1 h2).1 (hf b r h1 h2).2
theorem impl_spread_left.dist_bound (fr : Int) (pairs : List S54) : ∀ (k : Nat) (set : Int), -1 ≤ impl_spread_left.dist fr pairs k set ∧ impl_spread_left.dist fr pairs k set ≤ (k : Int)
  | 0, set => by unfold impl_spread_left.dist; split <;> omega
  | k + 1, set => by
    unfold impl_spread_left.dist
    split
    · omega
    · refine impl_spread_left.fold_bound _ (fun b r h1 h2 => ?_) _ _ (by omega) (by omega)
      have := impl_spread_left.dist_bound fr pairs k (impl_spread_left.bh set r)
      unfold impl_spread_left.one
      split <;> omega
theorem impl_spread_left.D_bound (fr : Int) (pairs : List S54) (set : Int) : -1 ≤ impl_spread_left.D fr pairs set ∧ impl_spread_left.D fr pairs set ≤ 300 := impl_spread_left.dist_bound fr pairs 300 set
section
open Go.Maps
theorem impl_spread_left.size_u16 {w : World} {b n : Nat} {D0 : DataW Unit} (h : w.ownsMap Try.prog 63 (plainElem Try.prog 3) b n D0) : w.ownsMap Try.prog 63 (plainElem Try.prog 3) b 65536 D0 := by
  obtain ⟨es, clock, hb, F, hs, hD⟩ := h
  refine ⟨es, clock, hb, F, ?_, hD⟩
  have hk : ∀ x ∈ es.toList, ∃ a : Nat, x.key = .int .u16 (a : Int) ∧ a < 65536 := fun x hx => by
    obtain ⟨y, hy⟩ := F.reads x hx
    have h2 := Go.WideElems.rd_key hy
    have hu := Try.underlying63
    cases hq : x.key <;> simp [keyOf, mapKey, hu, hq] at h2
    rename_i q a
    obtain ⟨⟨h3, h4⟩, _⟩ := h2
    subst h3
    have h5 : 0 ≤ a ∧ a < 65536 := by
      have e1 : IntKind.u16.min = 0 := rfl
      have e2 : IntKind.u16.max = 65535 := rfl
      simp [Lit.wf] at h4
      omega
    exact ⟨a.toNat, by rw [Int.toNat_of_nonneg h5.1], by omega⟩
  have hn : es.toList.Pairwise (fun x y => x.key ≠ y.key) := ((Go.MapKept.stamped_iff es clock).1 F.stamped).2.2
  have key : ∀ l : List MapEntry, l.Pairwise (fun x y => x.key ≠ y.key) → (∀ x ∈ l, ∃ a : Nat, x.key = .int .u16 (a : Int) ∧ a < 65536) → (l.map fun x => match x.key with | .int _ a => a.toNat | _ => 0).Nodup ∧ (l.map fun x => match x.key with | .int _ a => a.toNat | _ => 0) ⊆ List.range 65536 := by
    intro l hp hl
    constructor
    · unfold List.Nodup
      rw [List.pairwise_map]
      refine List.Pairwise.imp_of_mem ?_ hp
      intro x y hx hy hne e
      obtain ⟨a, ha, _⟩ := hl x hx
      obtain ⟨c, hc, _⟩ := hl y hy
      rw [ha, hc] at e hne
      simp at e
      exact hne (by rw [e])
    · intro z hz
      obtain ⟨x, hx, rfl⟩ := List.mem_map.1 hz
      obtain ⟨a, ha, h2⟩ := hl x hx
      rw [ha]
      simpa using h2
  obtain ⟨k1, k2⟩ := key es.toList hn hk
  have := k1.length_le_of_subset k2
  simpa using this
/-- What is known stands in the map, and is right. -/
def impl_spread_left.Memo (fr : Int) (pairs : List S54) (b : Nat) (w : World) : Prop := ∃ D0 : DataW Unit, w.ownsMap Try.prog 63 (plainElem Try.prog 3) b 65536 D0 ∧ ∀ s : Int, has D0 (.int .u16 s) = true → D0.atKey (.int .u16 s) (.lit (.int .i64 0)) = .lit (.int .i64 (impl_spread_left.D fr pairs s))
theorem impl_spread_left.Memo.grown {fr : Int} {pairs : List S54} {b : Nat} {w w' : World} {row : Option Nat} (h : impl_spread_left.Memo fr pairs b w) (hg : w.grownBy w' row) (hr : some b ≠ row) : impl_spread_left.Memo fr pairs b w' := by
  obtain ⟨D0, h1, h2⟩ := h
  exact ⟨D0, h1.kept hg hr, h2⟩
theorem impl_spread_left.Memo.below {fr : Int} {pairs : List S54} {b : Nat} {w w' : World} (h : impl_spread_left.Memo fr pairs b w) (hb : Below w.heap.size w w') : impl_spread_left.Memo fr pairs b w' := h.grown (row := none) ⟨hb.os, hb.tape, hb.output, hb.size, fun i hi _ => hb.block i hi⟩ (by simp)
end
/-- The rounds' rows: calls of the pairs. -/
theorem impl_spread_left.addT_mem : ∀ (cs pre : List S54) (seen : Int) (r : List S54), r ∈ impl_matchings.addT cs pre seen → r.length ≤ pre.length + cs.length ∧ ∀ x ∈ r, x ∈ pre ∨ x ∈ cs
  | [], pre, seen, r, h => by simp [impl_matchings.addT] at h
  | c :: cs, pre, seen, r, h => by
    unfold impl_matchings.addT at h
    rcases List.mem_append.1 h with h | h
    · split at h
      · rcases List.mem_cons.1 h with rfl | h
        · refine ⟨by simp, fun x hx => ?_⟩
          rcases List.mem_append.1 hx with hx | hx
          · exact .inl hx
          · exact .inr (by simp at hx; simp [hx])
        · obtain ⟨h1, h2⟩ := impl_spread_left.addT_mem cs _ _ r h
          refine ⟨by simp at h1 ⊢; omega, fun x hx => ?_⟩
          rcases h2 x hx with h3 | h3
          · rcases List.mem_append.1 h3 with h3 | h3
            · exact .inl h3
            · exact .inr (by simp at h3; simp [h3])
          · exact .inr (by simp [h3])
      · cases h
    · obtain ⟨h1, h2⟩ := impl_spread_left.addT_mem cs _ _ r h
      refine ⟨by simp at h1 ⊢; omega, fun x hx => ?_⟩
      rcases h2 x hx with h3 | h3
      · exact .inl h3
      · exact .inr (by simp [h3])
theorem impl_spread_left.rounds_mem (set : Int) (pairs r : List S54) (h : r ∈ impl_spread_rounds.rounds set pairs) : r.length ≤ pairs.length ∧ ∀ x ∈ r, x ∈ pairs := by
  unfold impl_spread_rounds.rounds impl_matchings.all at h
  rcases List.mem_cons.1 h with rfl | h
  · exact ⟨by simp, fun x hx => by cases hx⟩
  · obtain ⟨h1, h2⟩ := impl_spread_left.addT_mem _ _ _ r h
    have := List.length_filter_le (fun x => !impl_spread_rounds.del set x) pairs
    refine ⟨by simp at h1; omega, fun x hx => ?_⟩
    rcases h2 x hx with h3 | h3
    · cases h3
    · exact (List.mem_filter.1 h3).1
theorem impl_spread_left.behind_l0 (r : List S54) (hr : r.length ≤ 1000) (hn : ∀ x ∈ r, 0 ≤ x.f0 ∧ 0 ≤ x.f1) : ∀ (d i k : Nat) (s : Int), i + d = r.length → d < k → impl_behind.l0 k s r (r.length : Int) (i : Int) = some (impl_spread_left.bh s (r.drop i))
  | 0, i, k, s, hi, hk => by
    obtain ⟨k, rfl⟩ : ∃ q, k = q + 1 := ⟨k - 1, by omega⟩
    simp only [impl_behind.l0]
    rw [if_neg (by omega), List.drop_eq_nil_of_le (by omega)]
    rfl
  | d + 1, i, k, s, hi, hk => by
    obtain ⟨k, rfl⟩ : ∃ q, k = q + 1 := ⟨k - 1, by omega⟩
    have ha : i < r.length := by omega
    have hx := hn _ (List.getElem_mem ha)
    have e : rd_T54 r (i : Int) = r[i] := by unfold rd_T54; simp [List.getD_eq_getElem?_getD, ha]
    simp only [impl_behind.l0]
    rw [if_pos (by omega), if_pos (by omega), if_pos (by omega), e, if_pos hx.1, if_pos hx.2, show wrap64 ((i : Int) + 1) = ((i + 1 : Nat) : Int) by unfold wrap64; omega, impl_spread_left.behind_l0 r hr hn d (i + 1) k _ (by omega) (by omega), List.drop_eq_getElem_cons ha]
    rfl
theorem impl_spread_left.behind_f (r : List S54) (hr : r.length ≤ 1000) (hn : ∀ x ∈ r, 0 ≤ x.f0 ∧ 0 ≤ x.f1) (s : Int) : impl_behind.f 1001 s r = some (impl_spread_left.bh s r) := by
  have h := impl_spread_left.behind_l0 r hr hn r.length 0 1001 s (by omega) (by omega)
  rw [List.drop_zero] at h
  exact h
theorem impl_spread_left.bh_range (set : Int) (h0 : 0 ≤ set) (h1 : set < 65536) : ∀ r : List S54, 0 ≤ impl_spread_left.bh set r ∧ impl_spread_left.bh set r < 65536 := by
  have hw : ∀ a b : Int, 0 ≤ Go.bits .or .u16 a b ∧ Go.bits .or .u16 a b < 65536 := fun a b => by
    have hq : ∀ n : Int, 0 ≤ IntKind.u16.wrap n ∧ IntKind.u16.wrap n < 65536 := fun n => by simp [IntKind.wrap, IntKind.bits, IntKind.signed]; omega
    unfold Go.bits
    exact hq _
  intro r
  unfold impl_spread_left.bh
  induction r generalizing set with
  | nil => exact ⟨h0, h1⟩
  | cons c r ih => exact ih _ (hw _ _).1 (hw _ _).2
def impl_spread_left.T10 : Bool × List (List Nat × List Nat) := (true, [([], []), ([], []), ([], []), ([1, 2], [1, 2]), ([0, 3, 3], [0, 3]), ([4, 4, 0, 1, 2, 3, 4], [4])])
def impl_spread_left.B10 : List Nat := [0, 0, 0, 6, 15, 31]
theorem impl_spread_left.tab10 : rtab .any (opsOf Try.f43 10) = impl_spread_left.T10 := by kernel_rfl
theorem impl_spread_left.bits10 : waitsOk impl_spread_left.T10.2 impl_spread_left.B10 = true := by kernel_rfl
theorem impl_spread_left.elem {rows : List (List S54)} {w : World} {B : Nat} {ok : Nat → Prop} {A : Option Addr} {c : Nat} (h : Kd.N (Kd.slice 54 k54) 26 w B ok (.slice A rows.length c) rows) (i : Nat) (hi : i < rows.length) :
    ∃ (ad : Addr) (A1 : Option Addr) (c1 : Nat) (a : List S54), A = some ad ∧ rows.drop i = a :: rows.drop (i + 1) ∧ w.cell? (ad.add i) = some (.slice A1 a.length c1) ∧ a.length ≤ c1 ∧ Kd.F k54 w ok A1 a.length a := by
  obtain ⟨ad, rfl⟩ : ∃ ad, A = some ad := by
    obtain ⟨ad, h1, _⟩ := (Kd.N_reads' h).2.2.2.2 (by omega)
    exact ⟨ad, h1⟩
  obtain ⟨ce, hce, hMe, hcc⟩ := Kd.N_get h [] (i : Int) (by omega) (by omega)
  obtain ⟨ua, uc, rfl, ul, ge⟩ := Kd.FK_slice_open hMe
  have hv := hcc 0 _ rfl
  rw [Nat.add_zero, show ((Kd.slice 54 k54)).sz = 1 from rfl, Nat.mul_one] at hv
  simp only [Int.toNat_natCast] at hv ul ge
  refine ⟨ad, ua, uc, rows.getD i [], rfl, ?_, hv, ul, Kd.F_mono ge (fun _ hk => hk.1)⟩
  rw [List.drop_eq_getElem_cons hi, List.getD_eq_getElem?_getD, List.getElem?_eq_getElem hi]
  rfl
theorem impl_spread_left.grown_refl (w : World) (row : Option Nat) : w.grownBy w row := ⟨rfl, rfl, rfl, Nat.le_refl _, fun _ _ _ => rfl⟩
theorem impl_spread_left.grown_trans {a b c : World} {row : Option Nat} (h : a.grownBy b row) (k : b.grownBy c row) : a.grownBy c row :=
  ⟨k.os.trans h.os, k.tape.trans h.tape, k.output.trans h.output, Nat.le_trans h.size k.size, fun i hi hn => (k.block i (Nat.lt_of_lt_of_le hi h.size) hn).trans (h.block i hi hn)⟩
theorem impl_spread_left.grown_below {a b c : World} {row : Option Nat} (h : a.grownBy b row) (k : Below b.heap.size b c) : a.grownBy c row :=
  impl_spread_left.grown_trans h ⟨k.os, k.tape, k.output, k.size, fun i hi _ => k.block i hi⟩
theorem impl_spread_left.cell_eq {W W' : World} {b j : Nat} {v : Value} (h : W.cell? ⟨b, j, none⟩ = some v) (e : W'.heap[b]? = W.heap[b]?) : W'.cell? ⟨b, j, none⟩ = some v := by
  simp only [World.cell?] at h ⊢
  rw [e]
  exact h
theorem impl_spread_left.C_grown {w w' : World} {A : Option Addr} {n b : Nat} {l : List S54} (h : Kd.C k54 w A n l) (hg : w.grownBy w' (some b)) (hA : 0 < n → ∀ ad, A = some ad → ad.block ≠ b) : Kd.C k54 w' A n l := by
  obtain ⟨h1, h2, h3⟩ := h
  refine ⟨h1, h2, fun hp => ?_⟩
  obtain ⟨ad, rfl, hc⟩ := h3 hp
  refine ⟨ad, rfl, fun j p hj => ?_⟩
  obtain ⟨c, hl, hK, hcc⟩ := hc j p hj
  have hce := k54_open hK
  subst hce
  refine ⟨_, hl, k54_mk w' p, fun i u hu => ?_⟩
  have h4 := hcc i u hu
  have h5 := World.block_lt_of_cell? w _ h4
  rw [add_block] at h5
  have h6 := hg.block ad.block h5 (fun e => hA hp ad rfl (by injection e))
  simp only [World.cell?, add_block] at h4 ⊢
  rw [h6]
  exact h4
theorem impl_spread_left.zero3 (w : World) : (zeroValue 3).run Try.prog w = .ok (.int .i64 0) w := by kernel_rfl
set_option maxRecDepth 100000 in
theorem impl_spread_left.key {s : Int} (h0 : 0 ≤ s) (h1 : s < 65536) : keyOf Try.prog 63 (.int .u16 s) = some (.int .u16 s) := Go.Maps.keyOf_int_mk Try.underlying63 (by
  have e1 : IntKind.u16.min = 0 := rfl
  have e2 : IntKind.u16.max = 65535 := rfl
  simp [Lit.wf]
  omega)
open Go.Maps in
set_option maxRecDepth 100000 in
theorem impl_spread_left.look {fr : Int} {pairs : List S54} {b : Nat} {w : World} (h : impl_spread_left.Memo fr pairs b w) {set : Int} (h0 : 0 ≤ set) (h1 : set < 65536) : ∃ (c : Int) (q : Bool), (Instr.lookup 59 (.map (some b)) (.int .u16 set) true).run Try.prog w = .ok (.tuple #[.int .i64 c, .bool q]) w ∧ (q = true → c = impl_spread_left.D fr pairs set) := by
  obtain ⟨D0, hown, hat⟩ := h
  obtain ⟨v, ps, hrun, hv⟩ := hown.look_ok (int_keyed Try.underlying63) Try.underlying59 (impl_spread_left.zero3 w) (plainElem_int Try.underlying3 (by decide)) (impl_spread_left.key h0 h1)
  obtain ⟨c, rfl, hc, _⟩ := plainElem_int_inv Try.underlying3 hv
  refine ⟨c, _, hrun, fun hq => ?_⟩
  have h2 := hat set hq
  have h3 := congrArg Prod.fst hc
  simp only at h3
  rw [h3] at h2
  injection h2 with h2
  injection h2
open Go.Maps in
set_option maxRecDepth 100000 in
theorem impl_spread_left.put {fr : Int} {pairs : List S54} {b : Nat} {w : World} (h : impl_spread_left.Memo fr pairs b w) {set : Int} (h0 : 0 ≤ set) (h1 : set < 65536) : ∃ w', (Instr.mapUpdate 59 (.map (some b)) (.int .u16 set) (.int .i64 (impl_spread_left.D fr pairs set))).run Try.prog w = .ok () w' ∧ impl_spread_left.Memo fr pairs b w' ∧ w.grownBy w' (some b) := by
  obtain ⟨D0, hown, hat⟩ := h
  have hD := impl_spread_left.D_bound fr pairs set
  have hwf : (Lit.int .i64 (impl_spread_left.D fr pairs set)).wf = true := by
    have e1 : IntKind.i64.min = -9223372036854775808 := rfl
    have e2 : IntKind.i64.max = 9223372036854775807 := rfl
    simp [Lit.wf]
    omega
  obtain ⟨w', hrun, hown', hg⟩ := hown.update (int_keyed Try.underlying63) Try.underlying59 (by decide) (impl_spread_left.key h0 h1) (plainElem_int Try.underlying3 hwf)
  refine ⟨w', hrun, ⟨_, impl_spread_left.size_u16 hown', fun s hs => ?_⟩, hg⟩
  by_cases e : s = set
  · subst e
    rw [atKey_put_same hown.isMap (by simp [WideAt.IsKeyLit])]
  · have hne : (Lit.int .u16 s) ≠ .int .u16 set := fun h => e (by injection h)
    rw [has_put_other hne] at hs
    rw [atKey_put_other hne]
    exact hat s hs
open Go.Maps in
set_option maxHeartbeats 8000000 in
set_option maxRecDepth 100000 in
theorem impl_spread_left.left0 (fr : Int) (hfr : 0 ≤ fr) (pairs : List S54) (A : Option Addr) (cc b : Nat) (set : Int) (W : World) (hs : set = impl_spread_left.full fr) (hM : impl_spread_left.Memo fr pairs b W) :
      Calls Try.prog 43 #[.agg #[.int .i64 fr, .slice A pairs.length cc, .map (some b)], .int .u16 set] W fun e w' => e = .returned (.int .i64 (impl_spread_left.D fr pairs set)) ∧ impl_spread_left.Memo fr pairs b w' ∧ W.grownBy w' (some b) := by
  have HM := Aside0.mk hM
  have d1 : decide (0 ≤ fr) = true := decide_eq_true hfr
  have d2 : (0 ≤ fr) = True := eq_true hfr
  obtain ⟨FU, hFU⟩ : ∃ FU, IntKind.u16.wrap (IntKind.u16.wrap (2 ^ min fr.toNat 16) - 1) = FU := ⟨_, rfl⟩
  have e : impl_spread_left.full fr = FU := by rw [← hFU]; unfold impl_spread_left.full shl; rw [Int.one_mul]; rfl
  have eD : impl_spread_left.D fr pairs set = 0 := by
    unfold impl_spread_left.D impl_spread_left.dist
    rw [if_pos hs]
  have hs2 : (set == FU) = true := beq_iff_eq.mpr (hs.trans e)
  rw [eD]
  have B := Aside0.mk (show Below W.heap.size W (W.alloc (.cells #[.int .i64 fr, .slice A pairs.length cc, .map (some b)] 61)) from below_alloc (Below.refl _ _) _)
  clear hM hs e eD
  go_enter Try.func43, Try.ntmps43
  go_wp2
  go_ret
  exact ⟨rfl, HM.out.below B.out, ⟨B.out.os, B.out.tape, B.out.output, B.out.size, fun i hi _ => B.out.block i hi⟩⟩
open Go.Maps in
set_option maxHeartbeats 8000000 in
set_option maxRecDepth 100000 in
theorem impl_spread_left.left (fr : Int) (hfr : 0 ≤ fr) (pairs : List S54) (hl : pairs.length ≤ 1000) (hn : ∀ x ∈ pairs, 0 ≤ x.f0 ∧ 0 ≤ x.f1) (hbd : ∀ set, (impl_spread_rounds.rounds set pairs).length ≤ 1000000000) (A : Option Addr) (cc b : Nat) (hcc : pairs.length ≤ cc) : ∀ (k : Nat), k ≤ 300 → ∀ (set : Int) (W : World), 0 ≤ set → set < 65536 → impl_spread_left.Good fr pairs k set → impl_spread_left.Memo fr pairs b W → Kd.C k54 W A pairs.length pairs → (0 < pairs.length → ∀ ad, A = some ad → ad.block ≠ b) →
      Calls Try.prog 43 #[.agg #[.int .i64 fr, .slice A pairs.length cc, .map (some b)], .int .u16 set] W fun e w' => e = .returned (.int .i64 (impl_spread_left.D fr pairs set)) ∧ impl_spread_left.Memo fr pairs b w' ∧ W.grownBy w' (some b) := by
  intro k
  induction k with
  | zero => intro _ set W _ _ hG hM _ _; exact impl_spread_left.left0 fr hfr pairs A cc b set W hG hM
  | succ k ih =>
    intro hk set W h0 h1 hG hM hC hA
    have HG := Aside0.mk hG
    have HM := Aside0.mk hM
    have HC := Aside0.mk hC
    have HA := Aside0.mk hA
    have d1 : decide (0 ≤ fr) = true := decide_eq_true hfr
    have d2 : (0 ≤ fr) = True := eq_true hfr
    by_cases hs : set = impl_spread_left.full fr
    · exact impl_spread_left.left0 fr hfr pairs A cc b set W hs hM
    obtain ⟨FU, hFU⟩ : ∃ FU, IntKind.u16.wrap (IntKind.u16.wrap (2 ^ min fr.toNat 16) - 1) = FU := ⟨_, rfl⟩
    have e : impl_spread_left.full fr = FU := by rw [← hFU]; unfold impl_spread_left.full shl; rw [Int.one_mul]; rfl
    have hs2 : (set == FU) = false := beq_eq_false_iff_ne.mpr (fun h => hs (h.trans e.symm))
    have HNS := Aside0.mk hs
    have BA := Aside0.mk (show Below W.heap.size W (W.alloc (.cells #[.int .i64 fr, .slice A pairs.length cc, .map (some b)] 61)) from below_alloc (Below.refl _ _) _)
    obtain ⟨c, q, hrun, hcq⟩ := impl_spread_left.look (hM.below BA.out) h0 h1
    have HCQ := Aside0.mk hcq
    have H01 := Aside0.mk (And.intro h0 h1)
    clear hG hM hC hA hs e hcq h0 h1
    go_enter Try.func43, Try.ntmps43
    cases q with
    | true =>
      go_wp2
      go_ret
      exact ⟨by have hc := HCQ.out (by trivial); subst hc; rfl, HM.out.below BA.out, ⟨BA.out.os, BA.out.tape, BA.out.output, BA.out.size, fun i hi _ => BA.out.block i hi⟩⟩
    | false =>
      go_wp2_with fail
      clear hrun HCQ
      have hbx0 : (W.alloc (.cells #[.int .i64 fr, .slice A pairs.length cc, .map (some b)] 61)).cell? ⟨W.heap.size, 0, none⟩ = some (.int .i64 fr) := (blk_cell (heap_alloc_new W _) 0).trans rfl
      have hbx1 : (W.alloc (.cells #[.int .i64 fr, .slice A pairs.length cc, .map (some b)] 61)).cell? ⟨W.heap.size, 1, none⟩ = some (.slice A pairs.length cc) := (blk_cell (heap_alloc_new W _) 1).trans rfl
      have hbx2 : (W.alloc (.cells #[.int .i64 fr, .slice A pairs.length cc, .map (some b)] 61)).cell? ⟨W.heap.size, 2, none⟩ = some (.map (some b)) := (blk_cell (heap_alloc_new W _) 2).trans rfl
      generalize W.alloc (.cells #[.int .i64 fr, .slice A pairs.length cc, .map (some b)] 61) = wA at BA hbx0 hbx1 hbx2 ⊢
      refine (impl_spread_rounds.calls pairs hl hn set fr (.map (some b)) rfl (hbd set) A cc wA (Kd.C_below HC.out BA.out) hcc).mono ?_
      rintro e w3 ⟨v28, rfl, hs3, hb3⟩
      obtain ⟨rows, hrows⟩ : ∃ rows, rows = impl_spread_rounds.rounds set pairs := ⟨_, rfl⟩
      rw [← hrows] at hs3
      have B3 := Aside0.mk (below_step BA.out hb3)
      replace hbx0 := (hb3.cell (World.block_lt_of_cell? wA _ hbx0)).trans hbx0
      replace hbx1 := (hb3.cell (World.block_lt_of_cell? wA _ hbx1)).trans hbx1
      replace hbx2 := (hb3.cell (World.block_lt_of_cell? wA _ hbx2)).trans hbx2
      have HBX := Aside0.mk (And.intro hbx0 (And.intro hbx1 hbx2))
      have HBL := Aside0.mk (show b < W.heap.size from HM.out.choose_spec.1.lt)
      clear hbx0 hbx1 hbx2
      have N3 := Aside0.mk (show Kd.N (Kd.slice 54 k54) 26 w3 W.heap.size (fun k => W.heap.size ≤ k) v28 rows from Kd.S_N (Kd.S_lower (Kd.S_mono (Kd.S_bound hs3) (fun k hk => Nat.le_trans BA.out.size hk.2.1)) BA.out.size))
      have hr1 : 1 ≤ rows.length := by rw [hrows]; unfold impl_spread_rounds.rounds impl_matchings.all; simp
      have HROWS := Aside0.mk hrows
      clear hs3 hb3 hrows
      obtain ⟨A6, c6, rfl⟩ := Kd.N_slice N3.out
      obtain ⟨g6, cap6, hv6, _⟩ := Kd.N_form N3.out (by omega)
      cases hv6
      have hc6 := (Kd.N_reads' N3.out).2.1
      have HC6 := Aside0.mk hc6
      have HR1 := Aside0.mk hr1
      have q1 : (1 ≤ rows.length) = True := eq_true hr1
      have q2 : ((1 : Int) ≤ (rows.length : Int)) = True := eq_true (by omega)
      have q3 : decide ((1 : Int) ≤ (rows.length : Int)) = true := decide_eq_true (by omega)
      have q4 : (rows.length ≤ c6) = True := eq_true hc6
      have q5 : ((rows.length : Int) ≤ (c6 : Int)) = True := eq_true (by omega)
      have q6 : decide ((rows.length : Int) ≤ (c6 : Int)) = true := decide_eq_true (by omega)
      obtain ⟨A29, hA29⟩ : ∃ A29 : Option Addr, (if c6 = 1 then some (⟨g6, 0, none⟩ : Addr) else some ⟨g6, 1, none⟩) = A29 := ⟨_, rfl⟩
      have HA29 := Aside0.mk (show 2 ≤ rows.length → A29 = some ⟨g6, 1, none⟩ from fun h => by rw [← hA29, if_neg (by omega)])
      clear hr1 hc6
      go_wp2
      clear q1 q2 q3 q4 q5 q6 hA29
      go_loopg [7, 31] (rows.length + 1) (fun gg v7 v31 wr => ∃ (y : Nat) (best : Int), v7 = .int .i64 best ∧ v31 = .int .i64 (y : Int) ∧ Aside0 (y + 1 ≤ rows.length ∧ rows.length + 1 - y ≤ gg) ∧ Aside0 (-1 ≤ best ∧ best ≤ 301) ∧ Aside0 ((rows.drop (y + 1)).foldl (fun best r => impl_spread_left.one (impl_spread_left.D fr pairs (impl_spread_left.bh set r)) best) best = impl_spread_left.D fr pairs set) ∧ Aside0 (impl_spread_left.Memo fr pairs b wr) ∧ Aside0 (w3.grownBy wr (some b)))
      case atStart => exact ⟨0, -1, rfl, rfl, ⟨by have := HR1.out; omega, by omega⟩, ⟨by omega, by omega⟩, ⟨by rw [HROWS.out]; exact impl_spread_left.D_step fr pairs k hk set HNS.out HG.out⟩, ⟨HM.out.below B3.out⟩, ⟨impl_spread_left.grown_refl _ _⟩⟩
      case round =>
        obtain ⟨y, best, rfl, rfl, HY, HBE, HE, HMM, HGW⟩ := hrel
        have hgb : ∀ k, W.heap.size ≤ k → k < w3.heap.size → wr.heap[k]? = w3.heap[k]? := fun k h1 h2 => HGW.out.block k h2 (fun e => by injection e with e; have := HBL.out; omega)
        have hx0 := impl_spread_left.cell_eq HBX.out.1 (hgb _ (Nat.le_refl _) (World.block_lt_of_cell? w3 _ HBX.out.1))
        have hx1 := impl_spread_left.cell_eq HBX.out.2.1 (hgb _ (Nat.le_refl _) (World.block_lt_of_cell? w3 _ HBX.out.1))
        have hx2 := impl_spread_left.cell_eq HBX.out.2.2 (hgb _ (Nat.le_refl _) (World.block_lt_of_cell? w3 _ HBX.out.1))
        by_cases hy : y + 1 < rows.length
        · obtain ⟨ad, A5, c5, r, hA6, hdr, hcell, hl5, hF5⟩ := impl_spread_left.elem N3.out (y + 1) hy
          cases hA6
          rw [add_at, Nat.zero_add] at hcell
          have hg6 : W.heap.size ≤ g6 := N3.out.1 g6 (by simp [Value.ownBlock])
          have hcr : wr.cell? ⟨g6, y + 1, none⟩ = some (.slice A5 r.length c5) := impl_spread_left.cell_eq hcell (hgb g6 hg6 (World.block_lt_of_cell? w3 _ hcell))
          have hcr2 : wr.cell? ⟨g6, 1 + y, none⟩ = some (.slice A5 r.length c5) := by rw [Nat.add_comm]; exact hcr
          have HCR := Aside0.mk (show Kd.C k54 wr A5 r.length r from hF5 wr (fun k h1 h2 => hgb k h1 h2))
          have HCP := Aside0.mk (show Kd.C k54 wr A pairs.length pairs from impl_spread_left.C_grown (Kd.C_below HC.out B3.out) HGW.out HA.out)
          have HL5 := Aside0.mk hl5
          have hrm : r ∈ rows := List.mem_of_mem_drop (i := y + 1) (by rw [hdr]; simp)
          have hrm1 : r ∈ rows.drop 1 := by
            have h1 : r ∈ (rows.drop 1).drop y := by rw [List.drop_drop, Nat.add_comm, hdr]; simp
            exact List.mem_of_mem_drop h1
          have hrx := impl_spread_left.rounds_mem set pairs r (by rw [← HROWS.out]; exact hrm)
          have HBH := Aside0.mk (impl_spread_left.behind_f r (by omega) (fun x hx => hn x (hrx.2 x hx)) set)
          have HBR := Aside0.mk (impl_spread_left.bh_range set H01.out.1 H01.out.2 r)
          have HGR := Aside0.mk (show impl_spread_left.Good fr pairs k (impl_spread_left.bh set r) from (HG.out.resolve_left HNS.out) r (by rw [← HROWS.out]; exact hrm1))
          obtain rfl := HA29.out (by omega)
          have HDR := Aside0.mk hdr
          have HYY := Aside0.mk hy
          have y1 : decide ((y : Int) < ((rows.length - 1 : Nat) : Int)) = true := decide_eq_true (by omega)
          have y2 : ((y : Int) < ((rows.length - 1 : Nat) : Int)) = True := eq_true (by omega)
          have y3 : (y < rows.length - 1) = True := eq_true (by omega)
          clear hcell hl5 hF5 hrm hrm1 hrx hdr hy hgb hg6
          go_wp2_with fail
          have BD := Aside0.mk (below_drew1 (Below.refl wr.heap.size wr))
          refine start_ (n := 6) (S := fun w' => (w'.cell? ⟨W.heap.size, 0, none⟩ = some (.int .i64 fr) ∧ w'.cell? ⟨W.heap.size, 1, none⟩ = some (.slice A pairs.length cc) ∧ w'.cell? ⟨W.heap.size, 2, none⟩ = some (.map (some b)))) (ds := [4]) #[false, false, false, false, false, false] (by kernel_rfl) rfl rfl ⟨hx0, hx1, hx2⟩ (fun hHeld => ?_); refine with_tabW impl_spread_left.tab10 impl_spread_left.bits10 (fun HT_ HW_ => ?_)
          generalize wr.drew = wd at BD hHeld ⊢
          refine pure_ (i := 1) (N := some 36) (v := ?_) (a' := ?_) #[false, true, false, false, false, false] rfl rfl (any_of HT_.out (by kernel_rfl)) (fun _ _ _ h => h) (Or.inl ⟨by rfl, ?_⟩) ?_ ?_
          rotate_left
          · intro w'
            go_simp
            with_reducible rfl
          rotate_left
          · simp only [Act.put, List.setIfInBounds_toArray, List.set_cons_zero, List.set_cons_succ, i64_w, i32_w]
            rfl
          refine pure_ (i := 2) (N := some 37) (v := ?_) (a' := ?_) #[false, true, true, false, false, false] rfl rfl (any_of HT_.out (by kernel_rfl)) (fun _ _ _ h => h) (Or.inl ⟨by rfl, ?_⟩) ?_ ?_
          rotate_left
          · intro w'
            go_simp
            with_reducible rfl
          rotate_left
          · simp only [Act.put, List.setIfInBounds_toArray, List.set_cons_zero, List.set_cons_succ, i64_w, i32_w]
            rfl
          refine take_ (i := 0) (N := some 35) (v := ?_) (a' := ?_) #[true, true, true, false, false, false] rfl rfl (take_ofW HT_.out HW_.out (by kernel_rfl)) (fun _ _ _ h => h) (Or.inl ⟨by rfl, ?_⟩) hHeld ?_ ?_
          rotate_left
          · rintro w' ⟨s0, s1, s2⟩
            go_simp
            with_reducible rfl
          rotate_left
          · simp only [Act.put, List.setIfInBounds_toArray, List.set_cons_zero, List.set_cons_succ, i64_w, i32_w]
            rfl
          refine one_ (i := 3) (N := some 38) #[true, true, true, true, false, false] rfl rfl (one_of HT_.out (by kernel_rfl)) (by decide) (fun K hK => ?_)
          refine goes_ Try.func38 (by kernel_rfl) rfl #[.int .u16 set, .slice A5 r.length c5] (by rfl) rfl rfl (by (try simp only [List.map_toArray, List.map_cons, List.map_nil]); rfl) ?_
          refine (impl_behind.calls 1001 set A5 c5 r (impl_spread_left.bh set r) wd (Kd.C_below HCR.out BD.out) HL5.out HBH.out).mono ?_
          rintro e w4 ⟨rfl, hb4⟩
          refine ⟨_, rfl, ?_⟩
          have B4 := Aside0.mk (below_step BD.out hb4)
          have S4 := Aside0.mk (show (w4.cell? ⟨W.heap.size, 0, none⟩ = some (.int .i64 fr) ∧ w4.cell? ⟨W.heap.size, 1, none⟩ = some (.slice A pairs.length cc) ∧ w4.cell? ⟨W.heap.size, 2, none⟩ = some (.map (some b))) from ⟨(hb4.cell (World.block_lt_of_cell? _ _ hHeld.1)).trans hHeld.1, (hb4.cell (World.block_lt_of_cell? _ _ hHeld.2.1)).trans hHeld.2.1, (hb4.cell (World.block_lt_of_cell? _ _ hHeld.2.2)).trans hHeld.2.2⟩)
          clear hb4
          refine hK.out _ _ S4.out (fun hHeld => ?_)
          clear hK K
          refine norm_ (a' := ?_) ?_ ?_
          rotate_left
          · show Act.put _ (some 38) _ = _
            simp only [Act.put, List.setIfInBounds_toArray, List.set_cons_zero, List.set_cons_succ, i64_w, i32_w]
            rfl
          refine last_ (i := 4) (N := some 39) #[true, true, true, true, true, false] rfl rfl (one_of HT_.out (by kernel_rfl)) (by decide) (fun K hK => ?_)
          have hih := ih (by omega) (impl_spread_left.bh set r) w4 HBR.out.1 HBR.out.2 HGR.out (HMM.out.below B4.out) (Kd.C_below HCP.out B4.out) HA.out
          refine goes_ Try.func43 (by kernel_rfl) rfl #[.agg #[.int .i64 fr, .slice A pairs.length cc, .map (some b)], .int .u16 (impl_spread_left.bh set r)] (by rfl) rfl rfl (by (try simp only [List.map_toArray, List.map_cons, List.map_nil]); rfl) ?_
          refine hih.mono ?_
          clear hih
          rintro e w5 ⟨rfl, hM5, hG5⟩
          refine ⟨_, rfl, ?_⟩
          have M5 := Aside0.mk hM5
          have G5 := Aside0.mk (show w3.grownBy w5 (some b) from impl_spread_left.grown_trans (impl_spread_left.grown_below HGW.out B4.out) hG5)
          clear hM5 hG5
          refine hK.out _ _ ?_
          clear hK K
          refine norm_ (a' := ?_) ?_ ?_
          rotate_left
          · show Act.put _ (some 39) _ = _
            simp only [Act.put, List.setIfInBounds_toArray, List.set_cons_zero, List.set_cons_succ, i64_w, i32_w]
            rfl
          obtain ⟨nn, hnn⟩ : ∃ nn, nn = impl_spread_left.D fr pairs (impl_spread_left.bh set r) := ⟨_, rfl⟩
          have HND := Aside0.mk (impl_spread_left.D_bound fr pairs (impl_spread_left.bh set r))
          rw [← hnn] at HND ⊢
          refine pure_ (i := 5) (N := some 10) (v := ?_) (a' := ?_) #[true, true, true, true, true, true] rfl rfl (any_of HT_.out (by kernel_rfl)) (fun _ _ _ h => h) (Or.inl ⟨by rfl, ?_⟩) ?_ ?_
          rotate_left
          · intro w'
            go_simp
            with_reducible rfl
          rotate_left
          · simp only [Act.put, List.setIfInBounds_toArray, List.set_cons_zero, List.set_cons_succ, i64_w, i32_w]
            rfl
          refine done_ (done_of HT_.out (by kernel_rfl)) ?_
          rw [← hnn]
          have HNN := Aside0.mk hnn
          have hw : wrap64 (nn + 1) = nn + 1 := by have := HND.out; unfold wrap64; omega
          have hw2 : IntKind.i64.wrap (nn + 1) = nn + 1 := (i64_w _).trans hw
          have HWY := Aside0.mk (show wrap64 ((y : Int) + 1) = ((y + 1 : Nat) : Int) by have := HYY.out; have := hbd set; rw [← HROWS.out] at this; unfold wrap64; omega)
          clear hnn hx0 hx1 hx2 y1 y2 y3 hcr hcr2
          have fin : ∀ best' : Int, best' = impl_spread_left.one nn best → ∃ (y' : Nat) (b' : Int), Value.int .i64 best' = .int .i64 b' ∧ Value.int .i64 (wrap64 ((y : Int) + 1)) = .int .i64 (y' : Int) ∧ Aside0 (y' + 1 ≤ rows.length ∧ rows.length + 1 - y' ≤ rows.length + 1 - (y + 1)) ∧ Aside0 (-1 ≤ b' ∧ b' ≤ 301) ∧ Aside0 ((rows.drop (y' + 1)).foldl (fun best r => impl_spread_left.one (impl_spread_left.D fr pairs (impl_spread_left.bh set r)) best) b' = impl_spread_left.D fr pairs set) ∧ Aside0 (impl_spread_left.Memo fr pairs b w5) ∧ Aside0 (w3.grownBy w5 (some b)) := by
            intro best' hb'
            refine ⟨y + 1, best', rfl, by rw [HWY.out], ⟨by have := HYY.out; omega, by omega⟩, ⟨?_⟩, ⟨?_⟩, M5, G5⟩
            · have := HND.out
              have := HBE.out
              rw [hb']
              unfold impl_spread_left.one
              split <;> omega
            · have h := HE.out
              rw [HDR.out, List.foldl_cons, ← HNN.out, ← hb'] at h
              exact h
          have FIN := Aside0.mk fin
          clear fin
          by_cases n1 : 0 ≤ nn
          · have a1 : decide (0 ≤ nn) = true := decide_eq_true n1
            have a2 : (0 ≤ nn) = True := eq_true n1
            have a3 : decide (nn ≥ 0) = true := decide_eq_true n1
            by_cases n2 : best < 0
            · have b1 : decide (best < 0) = true := decide_eq_true n2
              have b2 : (best < 0) = True := eq_true n2
              have FI := Aside0.mk (FIN.out (nn + 1) (by unfold impl_spread_left.one; rw [if_pos ⟨n1, .inl n2⟩]))
              clear n1 n2
              go_wp2
              go_roundg (rows.length + 1 - (y + 1))
              case measure => have := HY.out; have := HYY.out; omega
              case rel => exact FI.out
            · have b1 : decide (best < 0) = false := decide_eq_false n2
              have b2 : (best < 0) = False := eq_false n2
              by_cases n3 : nn + 1 < best
              · have c1 : decide (nn + 1 < best) = true := decide_eq_true n3
                have c2 : (nn + 1 < best) = True := eq_true n3
                have FI := Aside0.mk (FIN.out (nn + 1) (by unfold impl_spread_left.one; rw [if_pos ⟨n1, .inr n3⟩]))
                clear n1 n2 n3
                go_wp2
                go_roundg (rows.length + 1 - (y + 1))
                case measure => have := HY.out; have := HYY.out; omega
                case rel => exact FI.out
              · have c1 : decide (nn + 1 < best) = false := decide_eq_false n3
                have c2 : (nn + 1 < best) = False := eq_false n3
                have FI := Aside0.mk (FIN.out best (by unfold impl_spread_left.one; rw [if_neg (fun h => h.2.elim n2 n3)]))
                clear n1 n2 n3
                go_wp2
                go_roundg (rows.length + 1 - (y + 1))
                case measure => have := HY.out; have := HYY.out; omega
                case rel => exact FI.out
          · have a1 : decide (0 ≤ nn) = false := decide_eq_false n1
            have a2 : (0 ≤ nn) = False := eq_false n1
            have a3 : decide (nn ≥ 0) = false := decide_eq_false n1
            have FI := Aside0.mk (FIN.out best (by unfold impl_spread_left.one; rw [if_neg (fun h => n1 h.1)]))
            clear n1
            go_wp2
            go_roundg (rows.length + 1 - (y + 1))
            case measure => have := HY.out; have := HYY.out; omega
            case rel => exact FI.out
        · have y1 : decide ((y : Int) < ((rows.length - 1 : Nat) : Int)) = false := decide_eq_false (by omega)
          have y2 : ((y : Int) < ((rows.length - 1 : Nat) : Int)) = False := eq_false (by omega)
          have y3 : (y < rows.length - 1) = False := eq_false (by omega)
          have HYY := Aside0.mk hy
          have eb : best = impl_spread_left.D fr pairs set := by
            have h := HE.out
            rw [List.drop_eq_nil_of_le (by omega)] at h
            exact h
          subst eb
          obtain ⟨w6, hrun, hM6, hg6⟩ := impl_spread_left.put HMM.out H01.out.1 H01.out.2
          have M6 := Aside0.mk hM6
          have G6 := Aside0.mk (impl_spread_left.grown_trans HGW.out hg6)
          clear hy hgb hM6 hg6
          go_wp2
          go_ret
          exact ⟨rfl, M6.out, impl_spread_left.grown_trans ⟨B3.out.os, B3.out.tape, B3.out.output, B3.out.size, fun i hi _ => B3.out.block i hi⟩ G6.out⟩


/-! ### impl_CentersOf: function 13 -/
/-- What holds for the law's arguments. -/
def impl_CentersOf.Fine (fr : Int) (pairs : List S54) : Prop := (0 ≤ fr ∧ fr ≤ 8) ∧ pairs.length ≤ 1000 ∧ (∀ x ∈ pairs, 0 ≤ x.f0 ∧ 0 ≤ x.f1) ∧ (∀ set, (impl_spread_rounds.rounds set pairs).length ≤ 1000000000) ∧ ∀ i : Nat, (i : Int) < fr → impl_spread_left.Good fr pairs 300 (shl .u16 1 (i : Int))
/-- One more friend. -/
def impl_CentersOf.next (n : Int) (i : Nat) (out : List Int) (least : Int) : List Int × Int :=
  if least < 0 ∨ n < least then ([(i : Int)], n) else if n = least then (out ++ [(i : Int)], least) else (out, least)
/-- So many more friends. -/
def impl_CentersOf.walk (D : Int → Int) : Nat → Nat → List Int → Int → List Int × Int × Bool
  | 0, _, out, least => (out, least, true)
  | d + 1, i, out, least => if D (shl .u16 1 (i : Int)) < 0 then ([], 0, false) else impl_CentersOf.walk D d (i + 1) (impl_CentersOf.next (D (shl .u16 1 (i : Int))) i out least).1 (impl_CentersOf.next (D (shl .u16 1 (i : Int))) i out least).2
open Classical in
noncomputable def impl_CentersOf.f (k : Nat) (a0 : Int) (l1 : List S54) : Option (List Int × Int × Bool) := (impl_isSpread.f k a0 l1).bind fun t => if t = true then (if impl_CentersOf.Fine a0 l1 then some (impl_CentersOf.walk (impl_spread_left.D a0 l1) a0.toNat 0 [] (-1)) else none) else some ([], 0, false)
theorem impl_CentersOf.mono : ∀ a0 a1 k, LeO (impl_CentersOf.f k a0 a1) (impl_CentersOf.f (k + 1) a0 a1) := fun a0 a1 k => LeO.bind (impl_isSpread.mono _ _ _) (fun _ => LeO.refl _)
open Go.Maps in
theorem impl_CentersOf.memo0 {fr : Int} {pairs : List S54} {b : Nat} {w : World} (h : w.heap[b]? = some (.map #[] 0)) : impl_spread_left.Memo fr pairs b w :=
  ⟨.map [], ⟨#[], 0, h, ⟨by simp, Go.MapKept.stamped_empty 0, by simp⟩, by simp, rfl⟩, fun s hs => by simp [has] at hs⟩
theorem impl_CentersOf.C_lt {w : World} {A : Option Addr} {n : Nat} {l : List S54} (h : Kd.C k54 w A n l) (hn : 0 < n) (ad : Addr) (e : A = some ad) : ad.block < w.heap.size := by
  obtain ⟨h1, h2, h3⟩ := h
  obtain ⟨ad2, h4, hc⟩ := h3 hn
  cases e.symm.trans h4
  cases l with
  | nil => simp at h1; omega
  | cons p l =>
    obtain ⟨c, hl, hK, hcc⟩ := hc 0 p rfl
    have hce := k54_open hK
    subst hce
    have h4 := hcc 0 _ rfl
    have h5 := World.block_lt_of_cell? w _ h4
    rw [add_block] at h5
    exact h5
def impl_CentersOf.T8 : Bool × List (List Nat × List Nat) := (true, [([], []), ([], []), ([1], [1]), ([0, 2], [0, 2]), ([3, 3, 0, 1, 2, 3], [3])])
def impl_CentersOf.B8 : List Nat := [0, 0, 2, 7, 15]
theorem impl_CentersOf.tab8 : rtab .any (opsOf Try.f13 8) = impl_CentersOf.T8 := by kernel_rfl
theorem impl_CentersOf.bits8 : waitsOk impl_CentersOf.T8.2 impl_CentersOf.B8 = true := by kernel_rfl
set_option maxHeartbeats 8000000 in
set_option maxRecDepth 100000 in
theorem impl_CentersOf.calls (k : Nat) (a0 : Int) (A1 : Option Addr) (c1 : Nat) (l1 : List S54) (r1 : List Int) (r2 : Int) (r3 : Bool) (w : World) (hr1 : Kd.C k54 w A1 l1.length l1) (hc1 : l1.length ≤ c1) (h : impl_CentersOf.f k a0 l1 = some (r1, r2, r3)) :
    Calls Try.prog 13 #[.int .i64 a0, .slice A1 l1.length c1] w fun e w' => ∃ v0_ : Value, e = .returned (.tuple #[v0_, .int .i64 r2, .bool r3]) ∧ Kd.R (Kd.int .i64) 3 w' w.heap.size (fun _ => True) v0_ r1 ∧ Below w.heap.size w w' := by
  have HR1 := Aside0.mk hr1
  have HC1 := Aside0.mk hc1
  clear hr1 hc1
  unfold impl_CentersOf.f at h
  replace h := Option.bind_eq_some_iff.mp h
  obtain ⟨t, ht, h⟩ := h
  have HT := Aside0.mk ht
  clear ht
  cases t with
  | false =>
    rw [if_neg (by decide)] at h
    obtain ⟨rfl, h2⟩ := Prod.mk.inj (Option.some.inj h)
    obtain ⟨rfl, rfl⟩ := Prod.mk.inj h2
    clear h h2
    go_enter Try.func13, Try.ntmps13
    go_wp2_with fail
    refine (impl_isSpread.calls k a0 A1 c1 l1 false w HR1.out HC1.out HT.out).mono ?_
    rintro e w1 ⟨rfl, hb⟩
    have B1 := Aside0.mk hb
    clear hb
    go_wp2
    go_ret3
    exact ⟨_, rfl, Kd.R_nil _ _ _ _ _, B1.out⟩
  | true =>
    rw [if_pos rfl] at h
    by_cases hF : impl_CentersOf.Fine a0 l1
    case neg => rw [if_neg hF] at h; cases h
    rw [if_pos hF] at h
    have HF := Aside0.mk hF
    have H := Aside0.mk (Option.some.inj h)
    clear h hF
    go_enter Try.func13, Try.ntmps13
    go_wp2_with fail
    refine (impl_isSpread.calls k a0 A1 c1 l1 true w HR1.out HC1.out HT.out).mono ?_
    rintro e w1 ⟨rfl, hb⟩
    have B1 := Aside0.mk hb
    clear hb
    go_wp2_with ((with_reducible refine gate_dst (N := 16) rfl ?_); refine Kd.R_lit (Kd.int .i64) (w0 := w) w.heap.size 3 ?hg (N := 16) ?hd (xs := ([] : List Int)) (inner := []) (ok := fun _ => True) (okp := fun _ => True) ?hr ?hp (fun _ hk => hk) trivial B1.out B1.out.size (by simp) ?_; (case hd => rfl); (case hg => rfl); (case hr => first | (go_simp; done) | (go_simp; rfl)); (case hp => exact (Reps.none _ _)); intro v2 w2 ho2 hb2 hg_ hnew_; clear hg_ hnew_; have O2 := Aside0.mk ho2; have B2 := Aside0.mk hb2; clear ho2 hb2)
    refine (impl_spreadOf.calls a0 A1 l1.length c1 w2).mono ?_
    rintro e w3 ⟨b, rfl, hbs, hbm, hb3⟩
    have O3 := Aside0.mk (Kd.R_below (Kd.R_bound O2.out) hb3)
    have B3 := Aside0.mk (below_step B2.out hb3)
    have BS := Aside0.mk (show w.heap.size ≤ b ∧ w2.heap.size ≤ b ∧ b < w3.heap.size from ⟨Nat.le_trans B2.out.size hbs, hbs, (Array.getElem?_eq_some_iff.1 hbm).1⟩)
    have M3 := Aside0.mk (impl_CentersOf.memo0 (fr := a0) (pairs := l1) hbm)
    clear hbs hbm hb3
    go_wp2
    have hbx0 := (blk_cell (heap_alloc_new w3 (.cells #[.int .i64 a0, .slice A1 l1.length c1, .map (some b)] 61)) 0).trans rfl
    have hbx1 := (blk_cell (heap_alloc_new w3 (.cells #[.int .i64 a0, .slice A1 l1.length c1, .map (some b)] 61)) 1).trans rfl
    have hbx2 := (blk_cell (heap_alloc_new w3 (.cells #[.int .i64 a0, .slice A1 l1.length c1, .map (some b)] 61)) 2).trans rfl
    have B4 := Aside0.mk (below_alloc B3.out (.cells #[.int .i64 a0, .slice A1 l1.length c1, .map (some b)] 61))
    have hbA := below_alloc (Below.refl w3.heap.size w3) (.cells #[.int .i64 a0, .slice A1 l1.length c1, .map (some b)] 61)
    have M4 := Aside0.mk (M3.out.below hbA)
    have O4 := Aside0.mk (Kd.R_mono (Kd.R_below O3.out hbA) (ok' := fun k => k ≠ b ∧ k ≠ w3.heap.size) (fun k hk => ⟨by have := hk.2.2.1; have := BS.out; omega, by have := hk.2.2.1; have := BS.out; omega⟩))
    have BL := Aside0.mk (show b < w3.heap.size ∧ w.heap.size ≤ w3.heap.size ∧ w.heap.size ≤ b from ⟨BS.out.2.2, B3.out.size, BS.out.1⟩)
    have SZ := Aside0.mk (show (w3.alloc (.cells #[.int .i64 a0, .slice A1 l1.length c1, .map (some b)] 61)).heap.size = w3.heap.size + 1 by simp)
    generalize w3.alloc (.cells #[.int .i64 a0, .slice A1 l1.length c1, .map (some b)] 61) = w4 at hbx0 hbx1 hbx2 B4 M4 O4 SZ ⊢
    generalize w3.heap.size = bx at hbx0 hbx1 hbx2 O4 BL SZ ⊢
    have HBX := Aside0.mk (And.intro hbx0 (And.intro hbx1 hbx2))
    clear hbA O2 O3 B2 B3 M3 BS hbx0 hbx1 hbx2
    go_loopg [7, 8, 21] (a0.toNat + 1) (fun gg v7 v8 v21 wr => ∃ (i : Nat) (out : List Int) (least : Int), v8 = .int .i64 least ∧ v21 = .int .i64 (i : Int) ∧ Aside0 ((i : Int) ≤ a0 ∧ a0.toNat + 1 - i ≤ gg) ∧ Aside0 (out.length ≤ i) ∧ Aside0 (impl_CentersOf.walk (impl_spread_left.D a0 l1) (a0.toNat - i) i out least = (r1, r2, r3)) ∧ Aside0 (Kd.R (Kd.int .i64) 3 wr w.heap.size (fun k => k ≠ b ∧ k ≠ bx) v7 out) ∧ Aside0 (impl_spread_left.Memo a0 l1 b wr) ∧ Aside0 (wr.cell? ⟨bx, 0, none⟩ = some (.int .i64 a0) ∧ wr.cell? ⟨bx, 1, none⟩ = some (.slice A1 l1.length c1) ∧ wr.cell? ⟨bx, 2, none⟩ = some (.map (some b))) ∧ Aside0 (bx < wr.heap.size) ∧ Aside0 (Below w.heap.size w wr))
    case atStart => exact ⟨0, [], -1, rfl, rfl, ⟨by have := HF.out.1; omega, by omega⟩, ⟨by simp⟩, H, O4, M4, HBX, ⟨by have := SZ.out; omega⟩, B4⟩
    case round =>
      clear B4 O4 M4 HBX H SZ
      obtain ⟨i, out, least, rfl, rfl, HI, HOL, H, O, M, HX, HXL, B⟩ := hrel
      have hfr := HF.out.1
      by_cases hi : (i : Int) < a0
      · have i1 : decide ((i : Int) < a0) = true := decide_eq_true hi
        have i2 : ((i : Int) < a0) = True := eq_true hi
        obtain ⟨hx0, hx1, hx2⟩ := HX.out
        have HII := Aside0.mk hi
        have i3 : decide (0 ≤ (i : Int)) = true := decide_eq_true (by omega)
        have i4 : (0 ≤ (i : Int)) = True := eq_true (by omega)
        have HFR := Aside0.mk hfr
        clear hi hfr
        go_wp2_with fail
        obtain ⟨SH, hSH⟩ : ∃ SH, IntKind.u16.wrap (2 ^ min i 16) = SH := ⟨_, rfl⟩
        have hS2 : shl .u16 1 (i : Int) = SH := by rw [← hSH]; unfold shl; rw [Int.one_mul]; rfl
        have HSR := Aside0.mk (show 0 ≤ SH ∧ SH < 65536 by
          have h8 : i = 0 ∨ i = 1 ∨ i = 2 ∨ i = 3 ∨ i = 4 ∨ i = 5 ∨ i = 6 ∨ i = 7 := by have := HFR.out; have := HII.out; omega
          rw [← hSH]
          rcases h8 with rfl | rfl | rfl | rfl | rfl | rfl | rfl | rfl <;> decide)
        have HGD := Aside0.mk (show impl_spread_left.Good a0 l1 300 SH by have := HF.out.2.2.2.2 i HII.out; rw [hS2] at this; exact this)
        have HS2 := Aside0.mk hS2
        clear hS2
        have BD := Aside0.mk (below_drew1 (Below.refl wr.heap.size wr))
        refine start_ (n := 5) (S := fun w' => (w'.cell? ⟨bx, 0, none⟩ = some (.int .i64 a0) ∧ w'.cell? ⟨bx, 1, none⟩ = some (.slice A1 l1.length c1) ∧ w'.cell? ⟨bx, 2, none⟩ = some (.map (some b)))) (ds := [3]) #[false, false, false, false, false] (by kernel_rfl) rfl rfl ⟨hx0, hx1, hx2⟩ (fun hHeld => ?_); refine with_tabW impl_CentersOf.tab8 impl_CentersOf.bits8 (fun HT_ HW_ => ?_)
        generalize wr.drew = wd at BD hHeld ⊢
        refine pure_ (i := 1) (N := some 25) (v := ?_) (a' := ?_) #[false, true, false, false, false] rfl rfl (any_of HT_.out (by kernel_rfl)) (fun _ _ _ h => h) (Or.inl ⟨by rfl, ?_⟩) ?_ ?_
        rotate_left
        · intro w'
          go_simp
          with_reducible rfl
        rotate_left
        · simp only [Act.put, List.setIfInBounds_toArray, List.set_cons_zero, List.set_cons_succ, i64_w, i32_w]
          rfl
        refine pure_ (i := 2) (N := some 26) (v := ?_) (a' := ?_) #[false, true, true, false, false] rfl rfl (any_of HT_.out (by kernel_rfl)) (fun _ _ _ h => h) (Or.inl ⟨by rfl, ?_⟩) ?_ ?_
        rotate_left
        · intro w'
          go_simp
          with_reducible rfl
        rotate_left
        · simp only [Act.put, List.setIfInBounds_toArray, List.set_cons_zero, List.set_cons_succ, i64_w, i32_w]
          rfl
        refine take_ (i := 0) (N := some 24) (v := ?_) (a' := ?_) #[true, true, true, false, false] rfl rfl (take_ofW HT_.out HW_.out (by kernel_rfl)) (fun _ _ _ h => h) (Or.inl ⟨by rfl, ?_⟩) hHeld ?_ ?_
        rotate_left
        · rintro w' ⟨s0, s1, s2⟩
          go_simp
          with_reducible rfl
        rotate_left
        · simp only [Act.put, List.setIfInBounds_toArray, List.set_cons_zero, List.set_cons_succ, i64_w, i32_w]
          rfl
        have HSH := Aside0.mk hSH
        clear hSH
        have hM : impl_spread_left.Memo a0 l1 b wd := M.out.below BD.out
        have hO : Kd.R (Kd.int .i64) 3 wd w.heap.size (fun k => k ≠ b ∧ k ≠ bx) u7 out := Kd.R_below O.out BD.out
        have hB : Below w.heap.size w wd := below_step B.out BD.out
        have hCl := impl_spread_left.left a0 HFR.out.1 l1 HF.out.2.1 HF.out.2.2.1 HF.out.2.2.2.1 A1 c1 b HC1.out 300 (Nat.le_refl _) SH wd HSR.out.1 HSR.out.2 HGD.out hM (Kd.C_below HR1.out hB) (fun h0 ad e => by have h1 := impl_CentersOf.C_lt HR1.out h0 ad e; have := BL.out; omega)
        refine last_ (i := 3) (N := some 27) #[true, true, true, true, false] rfl rfl (one_of HT_.out (by kernel_rfl)) (by decide) (fun K hK => ?_)
        refine goes_ Try.func43 (by kernel_rfl) rfl #[.agg #[.int .i64 a0, .slice A1 l1.length c1, .map (some b)], .int .u16 SH] (by rfl) rfl rfl (by (try simp only [List.map_toArray, List.map_cons, List.map_nil]); rfl) ?_
        refine hCl.mono ?_
        clear hCl
        rintro e w5 ⟨rfl, hM5, hG5⟩
        refine ⟨_, rfl, ?_⟩
        have O5 := Aside0.mk (Kd.R_grown hO hG5 (fun k hk e => hk.1 (Option.some.inj e)))
        have M5 := Aside0.mk hM5
        have X5 := Aside0.mk (show w5.cell? ⟨bx, 0, none⟩ = some (.int .i64 a0) ∧ w5.cell? ⟨bx, 1, none⟩ = some (.slice A1 l1.length c1) ∧ w5.cell? ⟨bx, 2, none⟩ = some (.map (some b)) from by
          have hb : w5.heap[bx]? = wd.heap[bx]? := hG5.block bx (World.block_lt_of_cell? _ _ hHeld.1) (fun e => by have := Option.some.inj e; have := BL.out; omega)
          exact ⟨impl_spread_left.cell_eq hHeld.1 hb, impl_spread_left.cell_eq hHeld.2.1 hb, impl_spread_left.cell_eq hHeld.2.2 hb⟩)
        have XL5 := Aside0.mk (show bx < w5.heap.size from World.block_lt_of_cell? _ _ X5.out.1)
        have B5 := Aside0.mk (show Below w.heap.size w w5 from hB.trans ⟨hG5.os, hG5.tape, hG5.output, hG5.size, fun i hi => hG5.block i (Nat.lt_of_lt_of_le hi hB.size) (fun e => by have := Option.some.inj e; have := BL.out; omega)⟩)
        clear hM5 hG5 hM hO hB O M HX HXL B hx0 hx1 hx2
        refine hK.out _ _ ?_
        clear hK K
        refine norm_ (a' := ?_) ?_ ?_
        rotate_left
        · show Act.put _ (some 27) _ = _
          simp only [Act.put, List.setIfInBounds_toArray, List.set_cons_zero, List.set_cons_succ, i64_w, i32_w]
          rfl
        obtain ⟨nn, hnn⟩ : ∃ nn, nn = impl_spread_left.D a0 l1 SH := ⟨_, rfl⟩
        have HND := Aside0.mk (impl_spread_left.D_bound a0 l1 SH)
        rw [← hnn] at HND ⊢
        refine pure_ (i := 4) (N := some 11) (v := ?_) (a' := ?_) #[true, true, true, true, true] rfl rfl (any_of HT_.out (by kernel_rfl)) (fun _ _ _ h => h) (Or.inl ⟨by rfl, ?_⟩) ?_ ?_
        rotate_left
        · intro w'
          go_simp
          with_reducible rfl
        rotate_left
        · simp only [Act.put, List.setIfInBounds_toArray, List.set_cons_zero, List.set_cons_succ, i64_w, i32_w]
          rfl
        refine done_ (done_of HT_.out (by kernel_rfl)) ?_
        rw [← hnn]
        have HWI := Aside0.mk (show wrap64 ((i : Int) + 1) = ((i + 1 : Nat) : Int) by have := HFR.out; have := HII.out; unfold wrap64; omega)
        have HH : (if nn < 0 then ([], 0, false) else impl_CentersOf.walk (impl_spread_left.D a0 l1) (a0.toNat - (i + 1)) (i + 1) (impl_CentersOf.next nn i out least).1 (impl_CentersOf.next nn i out least).2) = (r1, r2, r3) := by
          have h := H.out
          rw [show a0.toNat - i = (a0.toNat - (i + 1)) + 1 by have := HII.out; omega] at h
          simp only [impl_CentersOf.walk, HS2.out, ← hnn] at h
          exact h
        clear H hnn
        have FIN : ∀ (v6 : Value) (w6 : World) (o6 : List Int) (l6 : Int), impl_CentersOf.next nn i out least = (o6, l6) → ¬ nn < 0 → Kd.R (Kd.int .i64) 3 w6 w.heap.size (fun k => k ≠ b ∧ k ≠ bx) v6 o6 → o6.length ≤ i + 1 → Below w.heap.size w w6 → (∃ row, w5.grownBy w6 row ∧ some b ≠ row ∧ some bx ≠ row) →
            ∃ (i' : Nat) (out' : List Int) (least' : Int), Value.int .i64 l6 = .int .i64 least' ∧ Value.int .i64 (wrap64 ((i : Int) + 1)) = .int .i64 (i' : Int) ∧ Aside0 ((i' : Int) ≤ a0 ∧ a0.toNat + 1 - i' ≤ a0.toNat + 1 - (i + 1)) ∧ Aside0 (out'.length ≤ i') ∧ Aside0 (impl_CentersOf.walk (impl_spread_left.D a0 l1) (a0.toNat - i') i' out' least' = (r1, r2, r3)) ∧ Aside0 (Kd.R (Kd.int .i64) 3 w6 w.heap.size (fun k => k ≠ b ∧ k ≠ bx) v6 out') ∧ Aside0 (impl_spread_left.Memo a0 l1 b w6) ∧ Aside0 (w6.cell? ⟨bx, 0, none⟩ = some (.int .i64 a0) ∧ w6.cell? ⟨bx, 1, none⟩ = some (.slice A1 l1.length c1) ∧ w6.cell? ⟨bx, 2, none⟩ = some (.map (some b))) ∧ Aside0 (bx < w6.heap.size) ∧ Aside0 (Below w.heap.size w w6) := by
          intro v6 w6 o6 l6 hn h0 hO hl hB ⟨row, hg, hr1, hr2⟩
          rw [if_neg h0, hn] at HH
          have hb : w6.heap[bx]? = w5.heap[bx]? := hg.block bx XL5.out hr2
          exact ⟨i + 1, o6, l6, rfl, by rw [HWI.out], ⟨by have := HII.out; omega, by omega⟩, ⟨hl⟩, ⟨HH⟩, ⟨hO⟩, ⟨M5.out.grown hg hr1⟩, ⟨impl_spread_left.cell_eq X5.out.1 hb, impl_spread_left.cell_eq X5.out.2.1 hb, impl_spread_left.cell_eq X5.out.2.2 hb⟩, ⟨Nat.lt_of_lt_of_le XL5.out hg.size⟩, ⟨hB⟩⟩
        have FI := Aside0.mk FIN
        have HN := Aside0.mk HH
        clear FIN HH
        by_cases n1 : nn < 0
        · have a1 : decide (nn < 0) = true := decide_eq_true n1
          have a2 : (nn < 0) = True := eq_true n1
          have e := HN.out
          rw [if_pos n1] at e
          simp only [Prod.mk.injEq] at e
          obtain ⟨rfl, rfl, rfl⟩ := e
          clear n1
          go_wp2
          go_ret3
          exact ⟨_, rfl, Kd.R_nil _ _ _ _ _, B5.out⟩
        · have a1 : decide (nn < 0) = false := decide_eq_false n1
          have a2 : (nn < 0) = False := eq_false n1
          have N1 := Aside0.mk n1
          clear n1
          by_cases n2 : least < 0 ∨ nn < least
          · have eN := Aside0.mk (show impl_CentersOf.next nn i out least = ([(i : Int)], nn) by unfold impl_CentersOf.next; rw [if_pos n2])
            by_cases n3 : least < 0
            · have b1 : decide (least < 0) = true := decide_eq_true n3
              have b2 : (least < 0) = True := eq_true n3
              clear n2 n3
              go_wp2_with ((with_reducible refine gate_dst (N := 40) rfl ?_); refine Kd.R_lit (Kd.int .i64) (w0 := w) w.heap.size 3 ?hg (N := 40) ?hd (xs := ([(i : Int)] : List Int)) (inner := [.int .i64 (i : Int)]) (ok := fun k => k ≠ b ∧ k ≠ bx) (okp := fun _ => False) ?hr ?hp (fun _ hk => hk.elim) ⟨by have := BL.out; have := XL5.out; omega, by have := XL5.out; omega⟩ B5.out B5.out.size (by simp) ?_; (case hd => rfl); (case hg => rfl); (case hr => first | (go_simp; done) | (go_simp; rfl)); (case hp => exact (Reps.one (show Kd.M (Kd.int .i64) _ _ _ (i : Int) [.int .i64 (i : Int)] from rfl) (Reps.none _ _))); intro v6 w6 ho6 hb6 hg6 hnew_; clear hnew_; have O6 := Aside0.mk ho6; have B6 := Aside0.mk hb6; have G6 := Aside0.mk hg6; clear ho6 hb6 hg6)
              go_roundg (a0.toNat + 1 - (i + 1))
              case measure => have := HI.out; have := HII.out; omega
              case rel => exact FI.out _ _ _ _ eN.out N1.out O6.out (by simp) B6.out ⟨none, G6.out, by simp, by simp⟩
            · have n4 := n2.resolve_left n3
              have b1 : decide (least < 0) = false := decide_eq_false n3
              have b2 : (least < 0) = False := eq_false n3
              have c1 : decide (nn < least) = true := decide_eq_true n4
              have c2 : (nn < least) = True := eq_true n4
              clear n2 n3 n4
              go_wp2_with ((with_reducible refine gate_dst (N := 40) rfl ?_); refine Kd.R_lit (Kd.int .i64) (w0 := w) w.heap.size 3 ?hg (N := 40) ?hd (xs := ([(i : Int)] : List Int)) (inner := [.int .i64 (i : Int)]) (ok := fun k => k ≠ b ∧ k ≠ bx) (okp := fun _ => False) ?hr ?hp (fun _ hk => hk.elim) ⟨by have := BL.out; have := XL5.out; omega, by have := XL5.out; omega⟩ B5.out B5.out.size (by simp) ?_; (case hd => rfl); (case hg => rfl); (case hr => first | (go_simp; done) | (go_simp; rfl)); (case hp => exact (Reps.one (show Kd.M (Kd.int .i64) _ _ _ (i : Int) [.int .i64 (i : Int)] from rfl) (Reps.none _ _))); intro v6 w6 ho6 hb6 hg6 hnew_; clear hnew_; have O6 := Aside0.mk ho6; have B6 := Aside0.mk hb6; have G6 := Aside0.mk hg6; clear ho6 hb6 hg6)
              go_roundg (a0.toNat + 1 - (i + 1))
              case measure => have := HI.out; have := HII.out; omega
              case rel => exact FI.out _ _ _ _ eN.out N1.out O6.out (by simp) B6.out ⟨none, G6.out, by simp, by simp⟩
          · have n3 : ¬ least < 0 := fun h => n2 (.inl h)
            have n4 : ¬ nn < least := fun h => n2 (.inr h)
            have b1 : decide (least < 0) = false := decide_eq_false n3
            have b2 : (least < 0) = False := eq_false n3
            have c1 : decide (nn < least) = false := decide_eq_false n4
            have c2 : (nn < least) = False := eq_false n4
            by_cases n5 : nn = least
            · have eN := Aside0.mk (show impl_CentersOf.next nn i out least = (out ++ [(i : Int)], least) by unfold impl_CentersOf.next; rw [if_neg n2, if_pos n5])
              have d1 : (nn == least) = true := beq_iff_eq.mpr n5
              have d2 : decide (nn = least) = true := decide_eq_true n5
              have d3 : (nn = least) = True := eq_true n5
              have hne : ∀ k, u7.ownBlock = some k → k ≠ b ∧ k ≠ bx := fun k hk => O5.out.1 k hk
              have HNE := Aside0.mk hne
              clear n2 n3 n4 n5 hne
              go_wp2_with ((with_reducible refine gate_builtin (b := .append) (xs := #[.tmp 46, .tmp 48]) rfl ?_); at_builtin; refine Kd.R_append (Kd.int .i64) (w0 := w) w.heap.size rfl (.tmp 46) (.tmp 48) 30 3 (.int .i64 0) 8 rfl Try.underlying30 info3 rfl (by decide) (by omega) u7 out (i : Int) [.int .i64 (i : Int)] (fun k => k ≠ b ∧ k ≠ bx) (fun _ => False) rfl rfl ?aP (fun _ hk => hk.elim) ?aF ?aO ?aB ?aS ?aL ?_; (case aP => exact rfl); (case aB => exact B5.out); (case aF => exact (fun k hk => ⟨by have := BL.out; have := XL5.out; omega, by have := XL5.out; omega⟩)); (case aO => exact O5.out); (case aS => exact B5.out.size); (case aL => have := HOL.out; have := HII.out; have := HFR.out; omega); intro v6 w6 ho6 hb6 hg6 hat_; clear hat_; have O6 := Aside0.mk ho6; have B6 := Aside0.mk hb6; have G6 := Aside0.mk hg6; clear ho6 hb6 hg6)
              go_roundg (a0.toNat + 1 - (i + 1))
              case measure => have := HI.out; have := HII.out; omega
              case rel => exact FI.out _ _ _ _ eN.out N1.out O6.out (by have := HOL.out; simp; omega) B6.out ⟨_, G6.out, fun e => (HNE.out b e.symm).1 rfl, fun e => (HNE.out bx e.symm).2 rfl⟩
            · have eN := Aside0.mk (show impl_CentersOf.next nn i out least = (out, least) by unfold impl_CentersOf.next; rw [if_neg n2, if_neg n5])
              have d1 : (nn == least) = false := beq_eq_false_iff_ne.mpr n5
              have d2 : decide (nn = least) = false := decide_eq_false n5
              have d3 : (nn = least) = False := eq_false n5
              clear n2 n3 n4 n5
              go_wp2
              go_roundg (a0.toNat + 1 - (i + 1))
              case measure => have := HI.out; have := HII.out; omega
              case rel => exact FI.out _ _ _ _ eN.out N1.out O5.out (by have := HOL.out; omega) B5.out ⟨none, impl_spread_left.grown_refl _ _, by simp, by simp⟩
      · have i1 : decide ((i : Int) < a0) = false := decide_eq_false hi
        have i2 : ((i : Int) < a0) = False := eq_false hi
        have e := H.out
        rw [show a0.toNat - i = 0 by omega] at e
        simp only [impl_CentersOf.walk, Prod.mk.injEq] at e
        obtain ⟨rfl, rfl, rfl⟩ := e
        clear hi hfr
        go_wp2
        go_ret3
        exact ⟨_, rfl, Kd.R_mono O.out (fun _ _ => trivial), B.out⟩



end Go.Proofs.Ytoncbgjbkgdbaaa.PFnExactCentersOf
