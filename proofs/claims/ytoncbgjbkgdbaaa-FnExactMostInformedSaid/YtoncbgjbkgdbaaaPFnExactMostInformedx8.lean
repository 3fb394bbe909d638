-- Written by a program of this claim, over the kit's print: the functions that a law reaches, their plain forms and the walks.
import Derived.Test.YtoncbgjbkgdbaaaPFnExactMostInformedx0
import Derived.Test.YtoncbgjbkgdbaaaPFnExactMostInformedx4
import Derived.Test.YtoncbgjbkgdbaaaPFnExactMostInformedx6
import Derived.Test.YtoncbgjbkgdbaaaPFnExactMostInformedx7
namespace Go.Proofs.Ytoncbgjbkgdbaaa.PFnExactMostInformed
open Go.RowKit Go.Proofs.YtoncbgjbkgdbaaaW.PrintWords Go.Proofs.YtoncbgjbkgdbaaaW.PrintLast Go.Proofs.YtoncbgjbkgdbaaaW.PrintMore
attribute [local go_sem] max2_int min2_int max_two min_two max_three min_three max_four min_four   -- for this text's walks alone
set_option linter.unusedVariables false
set_option linter.unusedSimpArgs false

/-! ### impl_MostInformed: function 10 -/
-- impl_spreadOf bits_OnesCount16 impl_behind
/-- Who knows behind a round. -/
def impl_MostInformed.bh (set : Int) (r : List S54) : Int := r.foldl (fun s c => Go.bits .or .u16 s (impl_matchings.own c)) set
/-- The rounds' rows: calls of the pairs. -/
theorem impl_MostInformed.addT_mem : ∀ (cs pre : List S54) (seen : Int) (r : List S54), r ∈ impl_matchings.addT cs pre seen → r.length ≤ pre.length + cs.length ∧ ∀ x ∈ r, x ∈ pre ∨ x ∈ cs
  | [], pre, seen, r, h => by simp [impl_matchings.addT] at h
  | c :: cs, pre, seen, r, h => by
    unfold impl_matchings.addT at h
    rcases List.mem_append.1 h with h | h
    · split at h
      · rcases List.mem_cons.1 h with rfl | h
        · refine ⟨by simp, fun x hx => ?_⟩
          rcases List.mem_append.1 hx with hx | hx
          · exact .inl hx
          · exact .inr (by simp at hx; simp [hx])
        · obtain ⟨h1, h2⟩ := impl_MostInformed.addT_mem cs _ _ r h
          refine ⟨by simp at h1 ⊢; omega, fun x hx => ?_⟩
          rcases h2 x hx with h3 | h3
          · rcases List.mem_append.1 h3 with h3 | h3
            · exact .inl h3
            · exact .inr (by simp at h3; simp [h3])
          · exact .inr (by simp [h3])
      · cases h
    · obtain ⟨h1, h2⟩ := impl_MostInformed.addT_mem cs _ _ r h
      refine ⟨by simp at h1 ⊢; omega, fun x hx => ?_⟩
      rcases h2 x hx with h3 | h3
      · exact .inl h3
      · exact .inr (by simp [h3])
theorem impl_MostInformed.rounds_mem (set : Int) (pairs r : List S54) (h : r ∈ impl_spread_rounds.rounds set pairs) : r.length ≤ pairs.length ∧ ∀ x ∈ r, x ∈ pairs := by
  unfold impl_spread_rounds.rounds impl_matchings.all at h
  rcases List.mem_cons.1 h with rfl | h
  · exact ⟨by simp, fun x hx => by cases hx⟩
  · obtain ⟨h1, h2⟩ := impl_MostInformed.addT_mem _ _ _ r h
    have := List.length_filter_le (fun x => !impl_spread_rounds.del set x) pairs
    refine ⟨by simp at h1; omega, fun x hx => ?_⟩
    rcases h2 x hx with h3 | h3
    · cases h3
    · exact (List.mem_filter.1 h3).1
theorem impl_MostInformed.behind_l0 (r : List S54) (hr : r.length ≤ 1000) (hn : ∀ x ∈ r, 0 ≤ x.f0 ∧ 0 ≤ x.f1) : ∀ (d i k : Nat) (s : Int), i + d = r.length → d < k → impl_behind.l0 k s r (r.length : Int) (i : Int) = some (impl_MostInformed.bh s (r.drop i))
  | 0, i, k, s, hi, hk => by
    obtain ⟨k, rfl⟩ : ∃ q, k = q + 1 := ⟨k - 1, by omega⟩
    simp only [impl_behind.l0]
    rw [if_neg (by omega), List.drop_eq_nil_of_le (by omega)]
    rfl
  | d + 1, i, k, s, hi, hk => by
    obtain ⟨k, rfl⟩ : ∃ q, k = q + 1 := ⟨k - 1, by omega⟩
    have ha : i < r.length := by omega
    have hx := hn _ (List.getElem_mem ha)
    have e : rd_T54 r (i : Int) = r[i] := by unfold rd_T54; simp [List.getD_eq_getElem?_getD, ha]
    simp only [impl_behind.l0]
    rw [if_pos (by omega), if_pos (by omega), if_pos (by omega), e, if_pos hx.1, if_pos hx.2, show wrap64 ((i : Int) + 1) = ((i + 1 : Nat) : Int) by unfold wrap64; omega, impl_MostInformed.behind_l0 r hr hn d (i + 1) k _ (by omega) (by omega), List.drop_eq_getElem_cons ha]
    rfl
theorem impl_MostInformed.behind_f (r : List S54) (hr : r.length ≤ 1000) (hn : ∀ x ∈ r, 0 ≤ x.f0 ∧ 0 ≤ x.f1) (s : Int) : impl_behind.f 1001 s r = some (impl_MostInformed.bh s r) := by
  have h := impl_MostInformed.behind_l0 r hr hn r.length 0 1001 s (by omega) (by omega)
  rw [List.drop_zero] at h
  exact h
theorem impl_MostInformed.bh_range (set : Int) (h0 : 0 ≤ set) (h1 : set < 65536) : ∀ r : List S54, 0 ≤ impl_MostInformed.bh set r ∧ impl_MostInformed.bh set r < 65536 := by
  have hw : ∀ a b : Int, 0 ≤ Go.bits .or .u16 a b ∧ Go.bits .or .u16 a b < 65536 := fun a b => by
    have hq : ∀ n : Int, 0 ≤ IntKind.u16.wrap n ∧ IntKind.u16.wrap n < 65536 := fun n => by simp [IntKind.wrap, IntKind.bits, IntKind.signed]; omega
    unfold Go.bits
    exact hq _
  intro r
  unfold impl_MostInformed.bh
  induction r generalizing set with
  | nil => exact ⟨h0, h1⟩
  | cons c r ih => exact ih _ (hw _ _).1 (hw _ _).2
theorem impl_MostInformed.grown_refl (w : World) (row : Option Nat) : w.grownBy w row := ⟨rfl, rfl, rfl, Nat.le_refl _, fun _ _ _ => rfl⟩
theorem impl_MostInformed.grown_trans {a b c : World} {row : Option Nat} (h : a.grownBy b row) (k : b.grownBy c row) : a.grownBy c row :=
  ⟨k.os.trans h.os, k.tape.trans h.tape, k.output.trans h.output, Nat.le_trans h.size k.size, fun i hi hn => (k.block i (Nat.lt_of_lt_of_le hi h.size) hn).trans (h.block i hi hn)⟩
theorem impl_MostInformed.grown_below {a b c : World} {row : Option Nat} (h : a.grownBy b row) (k : Below b.heap.size b c) : a.grownBy c row :=
  impl_MostInformed.grown_trans h ⟨k.os, k.tape, k.output, k.size, fun i hi _ => k.block i hi⟩
theorem impl_MostInformed.cell_eq {W W' : World} {b j : Nat} {v : Value} (h : W.cell? ⟨b, j, none⟩ = some v) (e : W'.heap[b]? = W.heap[b]?) : W'.cell? ⟨b, j, none⟩ = some v := by
  simp only [World.cell?] at h ⊢
  rw [e]
  exact h
/-- Sets of friends. -/
def impl_MostInformed.In (fr set : Int) : Prop := 0 ≤ set ∧ set < 2 ^ fr.toNat
/-- What holds for the law's arguments. -/
def impl_MostInformed.Fine (fr : Int) (pairs : List S54) : Prop := (0 ≤ fr ∧ fr ≤ 8) ∧ pairs.length ≤ 1000 ∧ (∀ x ∈ pairs, 0 ≤ x.f0 ∧ 0 ≤ x.f1) ∧ (∀ set, (impl_spread_rounds.rounds set pairs).length ≤ 1000000000) ∧ ∀ set, impl_MostInformed.In fr set → ∀ r ∈ impl_spread_rounds.rounds set pairs, impl_MostInformed.In fr (impl_MostInformed.bh set r)
/-- How many there are. -/
def impl_MostInformed.ones (s : Int) : Int := ((Lib.onesCount (s.toNat / 256) + Lib.onesCount (s.toNat % 256) : Nat) : Int)
/-- Who may know behind so many rounds. -/
def impl_MostInformed.S (pairs : List S54) (set : Int) : Nat → List Int
  | 0 => [set]
  | n + 1 => (impl_MostInformed.S pairs set n).flatMap (fun t => (impl_spread_rounds.rounds t pairs).map (fun r => impl_MostInformed.bh t r))
/-- The most of them. -/
def impl_MostInformed.most (L : List Int) : Int := L.foldl (fun m s => max m (impl_MostInformed.ones s)) 1
open Classical in
noncomputable def impl_MostInformed.f (k : Nat) (a0 : Int) (l1 : List S54) (a2 a3 : Int) : Option (Int × Bool) := (impl_isSpread.f k a0 l1).bind fun t => if t = true then ((impl_isFriend.f a0 a2).bind fun u => if u = true then ((impl_within.f a3 0 20).bind fun v => if v = true then (if impl_MostInformed.Fine a0 l1 ∧ (0 ≤ a2 ∧ a2 < a0) ∧ (0 ≤ a3 ∧ a3 ≤ 20) then some (impl_MostInformed.most (impl_MostInformed.S l1 (shl .u16 1 a2) a3.toNat), true) else none) else some (0, false)) else some (0, false)) else some (0, false)
theorem impl_MostInformed.mono : ∀ a0 a1 a2 a3 k, LeO (impl_MostInformed.f k a0 a1 a2 a3) (impl_MostInformed.f (k + 1) a0 a1 a2 a3) := fun a0 a1 a2 a3 k => LeO.bind (impl_isSpread.mono _ _ _) (fun _ => LeO.refl _)
theorem impl_MostInformed.S_in {fr : Int} {pairs : List S54} (hF : impl_MostInformed.Fine fr pairs) {set : Int} (h : impl_MostInformed.In fr set) : ∀ (n : Nat) (s : Int), s ∈ impl_MostInformed.S pairs set n → impl_MostInformed.In fr s
  | 0, s, hs => by rw [List.mem_singleton.1 hs]; exact h
  | n + 1, s, hs => by
    obtain ⟨t, ht, hs⟩ := List.mem_flatMap.1 hs
    obtain ⟨r, hr, rfl⟩ := List.mem_map.1 hs
    exact hF.2.2.2.2 t (impl_MostInformed.S_in hF h n t ht) r hr
theorem impl_MostInformed.fold_ge : ∀ (L : List Int) (m : Int), m ≤ L.foldl (fun m s => max m (impl_MostInformed.ones s)) m ∧ ∀ s ∈ L, impl_MostInformed.ones s ≤ L.foldl (fun m s => max m (impl_MostInformed.ones s)) m
  | [], m => ⟨Int.le_refl _, fun s hs => by cases hs⟩
  | x :: L, m => by
    obtain ⟨h1, h2⟩ := impl_MostInformed.fold_ge L (max m (impl_MostInformed.ones x))
    rw [List.foldl_cons]
    refine ⟨Int.le_trans (Int.le_max_left _ _) h1, fun s hs => ?_⟩
    rcases List.mem_cons.1 hs with rfl | hs
    · exact Int.le_trans (Int.le_max_right _ _) h1
    · exact h2 s hs
theorem impl_MostInformed.fold_or : ∀ (L : List Int) (m : Int), L.foldl (fun m s => max m (impl_MostInformed.ones s)) m = m ∨ ∃ s ∈ L, L.foldl (fun m s => max m (impl_MostInformed.ones s)) m = impl_MostInformed.ones s
  | [], m => .inl rfl
  | x :: L, m => by
    rw [List.foldl_cons]
    rcases impl_MostInformed.fold_or L (max m (impl_MostInformed.ones x)) with h | ⟨s, hs, h⟩
    · rcases Int.le_total m (impl_MostInformed.ones x) with e | e
      · exact .inr ⟨x, by simp, by rw [h, Int.max_eq_right e]⟩
      · exact .inl (by rw [h, Int.max_eq_left e])
    · exact .inr ⟨s, by simp [hs], h⟩
theorem impl_MostInformed.most_eq {L : List Int} {v : Int} (h1 : 1 ≤ v) (h2 : ∀ s ∈ L, impl_MostInformed.ones s ≤ v) (h3 : v = 1 ∨ ∃ s ∈ L, v = impl_MostInformed.ones s) : impl_MostInformed.most L = v := by
  obtain ⟨g1, g2⟩ := impl_MostInformed.fold_ge L 1
  unfold impl_MostInformed.most
  have up : L.foldl (fun m s => max m (impl_MostInformed.ones s)) 1 ≤ v := by
    rcases impl_MostInformed.fold_or L 1 with h | ⟨s, hs, h⟩
    · rw [h]; exact h1
    · rw [h]; exact h2 s hs
  rcases h3 with rfl | ⟨s, hs, rfl⟩
  · exact Int.le_antisymm up g1
  · exact Int.le_antisymm up (g2 s hs)
theorem impl_MostInformed.shl_in {a0 a2 : Int} (h8 : a0 ≤ 8) (h0 : 0 ≤ a2) (h1 : a2 < a0) : impl_MostInformed.In a0 (shl .u16 1 a2) := by
  have h : (a0 = 1 ∨ a0 = 2 ∨ a0 = 3 ∨ a0 = 4 ∨ a0 = 5 ∨ a0 = 6 ∨ a0 = 7 ∨ a0 = 8) ∧ (a2 = 0 ∨ a2 = 1 ∨ a2 = 2 ∨ a2 = 3 ∨ a2 = 4 ∨ a2 = 5 ∨ a2 = 6 ∨ a2 = 7) := by omega
  obtain ⟨h2, h3⟩ := h
  unfold impl_MostInformed.In
  rcases h3 with rfl | rfl | rfl | rfl | rfl | rfl | rfl | rfl <;> rcases h2 with rfl | rfl | rfl | rfl | rfl | rfl | rfl | rfl <;> first | omega | decide
theorem impl_MostInformed.in_u16 {a0 s : Int} (h8 : a0 ≤ 8) (h : impl_MostInformed.In a0 s) : 0 ≤ s ∧ s < 65536 := by
  obtain ⟨h0, h1⟩ := h
  refine ⟨h0, Int.lt_trans h1 ?_⟩
  have h : a0.toNat ≤ 8 := by omega
  generalize a0.toNat = n at h
  have h2 : (2 : Nat) ^ n ≤ 2 ^ 8 := Nat.pow_le_pow_right (by decide) h
  have h3 : ((2 ^ n : Nat) : Int) = (2 : Int) ^ n := by simp
  omega
section
open Go.Maps
theorem impl_MostInformed.size_u16 {w : World} {b n : Nat} {D0 : DataW Unit} (h : w.ownsMap Try.prog 63 (plainElem Try.prog 4) b n D0) : w.ownsMap Try.prog 63 (plainElem Try.prog 4) b 65536 D0 := by
  obtain ⟨es, clock, hb, F, hs, hD⟩ := h
  refine ⟨es, clock, hb, F, ?_, hD⟩
  have hk : ∀ x ∈ es.toList, ∃ a : Nat, x.key = .int .u16 (a : Int) ∧ a < 65536 := fun x hx => by
    obtain ⟨y, hy⟩ := F.reads x hx
    have h2 := Go.WideElems.rd_key hy
    have hu := Try.underlying63
    cases hq : x.key <;> simp [keyOf, mapKey, hu, hq] at h2
    rename_i q a
    obtain ⟨⟨h3, h4⟩, _⟩ := h2
    subst h3
    have h5 : 0 ≤ a ∧ a < 65536 := by
      have e1 : IntKind.u16.min = 0 := rfl
      have e2 : IntKind.u16.max = 65535 := rfl
      simp [Lit.wf] at h4
      omega
    exact ⟨a.toNat, by rw [Int.toNat_of_nonneg h5.1], by omega⟩
  have hn : es.toList.Pairwise (fun x y => x.key ≠ y.key) := ((Go.MapKept.stamped_iff es clock).1 F.stamped).2.2
  have key : ∀ l : List MapEntry, l.Pairwise (fun x y => x.key ≠ y.key) → (∀ x ∈ l, ∃ a : Nat, x.key = .int .u16 (a : Int) ∧ a < 65536) → (l.map fun x => match x.key with | .int _ a => a.toNat | _ => 0).Nodup ∧ (l.map fun x => match x.key with | .int _ a => a.toNat | _ => 0) ⊆ List.range 65536 := by
    intro l hp hl
    constructor
    · unfold List.Nodup
      rw [List.pairwise_map]
      refine List.Pairwise.imp_of_mem ?_ hp
      intro x y hx hy hne e
      obtain ⟨a, ha, _⟩ := hl x hx
      obtain ⟨c, hc, _⟩ := hl y hy
      rw [ha, hc] at e hne
      simp at e
      exact hne (by rw [e])
    · intro z hz
      obtain ⟨x, hx, rfl⟩ := List.mem_map.1 hz
      obtain ⟨a, ha, h2⟩ := hl x hx
      rw [ha]
      simpa using h2
  obtain ⟨k1, k2⟩ := key es.toList hn hk
  have := k1.length_le_of_subset k2
  simpa using this
/-- The block is a map from just these numbers. -/
def impl_MostInformed.Holds (w : World) (b : Nat) (P : Int → Prop) : Prop := ∃ D : DataW Unit, w.ownsMap Try.prog 63 (plainElem Try.prog 4) b 65536 D ∧ ∀ kl, has D kl = true ↔ ∃ s, P s ∧ kl = .int .u16 s
theorem impl_MostInformed.Holds.congr {w : World} {b : Nat} {P Q : Int → Prop} (h : impl_MostInformed.Holds w b P) (e : ∀ s, P s ↔ Q s) : impl_MostInformed.Holds w b Q := by
  obtain ⟨D, h1, h2⟩ := h
  refine ⟨D, h1, fun kl => (h2 kl).trans ⟨?_, ?_⟩⟩
  · rintro ⟨s, hs, rfl⟩; exact ⟨s, (e s).1 hs, rfl⟩
  · rintro ⟨s, hs, rfl⟩; exact ⟨s, (e s).2 hs, rfl⟩
theorem impl_MostInformed.Holds.kept {w w' : World} {b : Nat} {P : Int → Prop} {row : Option Nat} (h : impl_MostInformed.Holds w b P) (hg : w.grownBy w' row) (hne : some b ≠ row) : impl_MostInformed.Holds w' b P := by
  obtain ⟨D, h1, h2⟩ := h
  exact ⟨D, h1.kept hg hne, h2⟩
theorem impl_MostInformed.Holds.below {w w' : World} {b : Nat} {P : Int → Prop} (h : impl_MostInformed.Holds w b P) (hb : Below w.heap.size w w') : impl_MostInformed.Holds w' b P := h.kept (row := none) ⟨hb.os, hb.tape, hb.output, hb.size, fun i hi _ => hb.block i hi⟩ (by simp)
theorem impl_MostInformed.Holds.lt {w : World} {b : Nat} {P : Int → Prop} (h : impl_MostInformed.Holds w b P) : b < w.heap.size := h.choose_spec.1.lt
theorem impl_MostInformed.Holds.ne {w : World} {b p : Nat} {P : Int → Prop} {cs : Array Value} {t : Nat} {z : Nat × Nat} (h : impl_MostInformed.Holds w b P) (hp : w.heap[p]? = some (.cells cs t z)) : b ≠ p := by
  obtain ⟨D, ⟨es, clock, hb, _⟩, _⟩ := h
  rintro rfl
  rw [hb] at hp
  cases hp
theorem impl_MostInformed.Holds.set {w : World} {b p j : Nat} {P : Int → Prop} (h : impl_MostInformed.Holds w b P) (hp : b ≠ p) (v : Value) : impl_MostInformed.Holds (w.setCell ⟨p, j, none⟩ v) b P := by
  obtain ⟨D, h1, h2⟩ := h
  exact ⟨D, h1.setCell (a := ⟨p, j, none⟩) hp v, h2⟩
theorem impl_MostInformed.Holds.made {w : World} {b : Nat} (h : w.heap[b]? = some (.map #[] 0)) : impl_MostInformed.Holds w b (fun _ => False) :=
  ⟨.map [], ⟨#[], 0, h, ⟨by simp, Go.MapKept.stamped_empty 0, by simp⟩, by simp, rfl⟩, fun kl => by simp [has]⟩
theorem impl_MostInformed.key {s : Int} (h0 : 0 ≤ s) (h1 : s < 65536) : keyOf Try.prog 63 (.int .u16 s) = some (.int .u16 s) := Go.Maps.keyOf_int_mk Try.underlying63 (by
  have e1 : IntKind.u16.min = 0 := rfl
  have e2 : IntKind.u16.max = 65535 := rfl
  simp [Lit.wf]
  omega)
open Go.Maps in
set_option maxRecDepth 100000 in
theorem impl_MostInformed.Holds.add {w : World} {b : Nat} {P : Int → Prop} (h : impl_MostInformed.Holds w b P) {s : Int} (h0 : 0 ≤ s) (h1 : s < 65536) : ∃ w', (Instr.mapUpdate 64 (.map (some b)) (.int .u16 s) (.bool true)).run Try.prog w = .ok () w' ∧ impl_MostInformed.Holds w' b (fun x => P x ∨ x = s) ∧ w.grownBy w' (some b) := by
  obtain ⟨D, hown, hh⟩ := h
  obtain ⟨w', hrun, hown', hg⟩ := hown.update (int_keyed Try.underlying63) Try.underlying64 (by decide) (impl_MostInformed.key h0 h1) (plainElem_bool Try.underlying4 true)
  refine ⟨w', hrun, ⟨_, impl_MostInformed.size_u16 hown', fun kl => ?_⟩, hg⟩
  by_cases e : kl = .int .u16 s
  · subst e
    rw [has_put_same hown.isMap (by simp [WideAt.IsKeyLit])]
    exact ⟨fun _ => ⟨s, .inr rfl, rfl⟩, fun _ => rfl⟩
  · rw [has_put_other e, hh]
    constructor
    · rintro ⟨x, hx, rfl⟩; exact ⟨x, .inl hx, rfl⟩
    · rintro ⟨x, hx | hx, rfl⟩
      · exact ⟨x, hx, rfl⟩
      · subst hx; exact absurd rfl e
end
theorem impl_MostInformed.elemS {rows : List (List S54)} {w : World} {B : Nat} {ok : Nat → Prop} {A : Option Addr} {c : Nat} (h : Kd.S (Kd.slice 54 k54) 26 w B ok (.slice A rows.length c) rows) (i : Nat) (hi : i < rows.length) :
    ∃ (g : Nat) (A1 : Option Addr) (c1 : Nat) (a : List S54), A = some ⟨g, 0, none⟩ ∧ B ≤ g ∧ rows.drop i = a :: rows.drop (i + 1) ∧ w.cell? ⟨g, i, none⟩ = some (.slice A1 a.length c1) ∧ Kd.R k54 54 w B (fun k => ok k ∧ k ≠ g) (.slice A1 a.length c1) a := by
  obtain ⟨g, cap, hv, hB, _⟩ := Kd.S_form h (by omega)
  injection hv with hA hn hc
  subst hA hc
  obtain ⟨ce, hce, hMe, hcc⟩ := Kd.S_get h [] (i : Int) (by omega) (by omega)
  obtain ⟨v, rfl, hR⟩ := hMe
  obtain ⟨A1, c1, rfl⟩ := Kd.R_slice hR
  have hv := hcc 0 _ rfl
  rw [Nat.add_zero, show ((Kd.slice 54 k54)).sz = 1 from rfl, Nat.mul_one, add_at, Nat.zero_add] at hv
  simp only [Int.toNat_natCast] at hv hR
  refine ⟨g, A1, c1, rows.getD i [], rfl, hB, ?_, hv, Kd.R_mono hR (fun k hk => ⟨hk.1, fun e => hk.2 (by simp [Value.ownBlock, e])⟩)⟩
  rw [List.drop_eq_getElem_cons hi, List.getD_eq_getElem?_getD, List.getElem?_eq_getElem hi]
  rfl
def impl_MostInformed.T3 : Bool × List (List Nat × List Nat) := (true, [([], []), ([], []), ([0, 1], [0, 1]), ([], []), ([], []), ([4], [4]), ([3, 5], [3, 5]), ([3, 4, 5, 6], [3]), ([], []), ([8, 2, 2, 0, 1, 2, 8], [2, 8]), ([7, 9, 0, 1, 2, 3, 4, 5, 6, 7, 8, 9], [7]), ([10, 0, 1, 2, 3, 4, 5, 6, 7, 8, 9, 10], [])])
def impl_MostInformed.B3 : List Nat := [0, 0, 3, 0, 0, 16, 56, 120, 0, 263, 1023, 2047]
theorem impl_MostInformed.tab3 : rtab .any (opsOf Try.f10 3) = impl_MostInformed.T3 := by kernel_rfl
theorem impl_MostInformed.bits3 : waitsOk impl_MostInformed.T3.2 impl_MostInformed.B3 = true := by kernel_rfl
set_option maxHeartbeats 16000000 in
set_option maxRecDepth 100000 in
theorem impl_MostInformed.calls (k : Nat) (a0 : Int) (A1 : Option Addr) (c1 : Nat) (l1 : List S54) (a2 a3 : Int) (r1 : Int) (r2 : Bool) (w : World) (hr1 : Kd.C k54 w A1 l1.length l1) (hc1 : l1.length ≤ c1) (h : impl_MostInformed.f k a0 l1 a2 a3 = some (r1, r2)) :
    Calls Try.prog 10 #[.int .i64 a0, .slice A1 l1.length c1, .int .i64 a2, .int .i64 a3] w fun e w' => e = .returned (.tuple #[.int .i64 r1, .bool r2]) ∧ Below w.heap.size w w' := by
  have HR1 := Aside0.mk hr1
  have HC1 := Aside0.mk hc1
  clear hr1 hc1
  unfold impl_MostInformed.f at h
  replace h := Option.bind_eq_some_iff.mp h
  obtain ⟨t, ht, h⟩ := h
  have HT := Aside0.mk ht
  clear ht
  cases t with
  | false =>
    rw [if_neg (by decide)] at h
    obtain ⟨rfl, rfl⟩ := Prod.mk.inj (Option.some.inj h)
    clear h
    go_enter Try.func10, Try.ntmps10
    go_wp2_with fail
    refine (impl_isSpread.calls k a0 A1 c1 l1 false w HR1.out HC1.out HT.out).mono ?_
    rintro e w1 ⟨rfl, hb⟩
    have B1 := Aside0.mk hb
    clear hb
    go_wp2
    go_ret2
    exact ⟨rfl, B1.out⟩
  | true =>
    rw [if_pos rfl] at h
    replace h := Option.bind_eq_some_iff.mp h
    obtain ⟨u, hu, h⟩ := h
    have HU := Aside0.mk hu
    clear hu
    cases u with
    | false =>
      rw [if_neg (by decide)] at h
      obtain ⟨rfl, rfl⟩ := Prod.mk.inj (Option.some.inj h)
      clear h
      go_enter Try.func10, Try.ntmps10
      go_wp2_with fail
      refine (impl_isSpread.calls k a0 A1 c1 l1 true w HR1.out HC1.out HT.out).mono ?_
      rintro e w1 ⟨rfl, hb⟩
      have B1 := Aside0.mk hb
      clear hb
      go_wp2_with fail
      refine (impl_isFriend.calls a0 a2 false w1 HU.out).mono ?_
      rintro e w2 ⟨rfl, hd⟩
      have B2 := Aside0.mk (below_step B1.out (show Below w1.heap.size w1 w2 from by obtain ⟨n, rfl⟩ := hd.out; exact pw_below_drewN (Below.refl _ _) n))
      clear hd B1
      go_wp2
      go_ret2
      exact ⟨rfl, B2.out⟩
    | true =>
      rw [if_pos rfl] at h
      replace h := Option.bind_eq_some_iff.mp h
      obtain ⟨v, hv, h⟩ := h
      have HV := Aside0.mk hv
      clear hv
      go_enter Try.func10, Try.ntmps10
      go_wp2_with fail
      refine (impl_isSpread.calls k a0 A1 c1 l1 true w HR1.out HC1.out HT.out).mono ?_
      rintro e wa ⟨rfl, hb⟩
      have Ba := Aside0.mk hb
      clear hb
      go_wp2_with fail
      refine (impl_isFriend.calls a0 a2 true wa HU.out).mono ?_
      rintro e wb ⟨rfl, hd⟩
      have Bb := Aside0.mk (below_step Ba.out (show Below wa.heap.size wa wb from by obtain ⟨n, rfl⟩ := hd.out; exact pw_below_drewN (Below.refl _ _) n))
      clear hd Ba
      go_wp2_with fail
      refine (impl_within.calls a3 0 20 v wb HV.out).mono ?_
      rintro e w1 ⟨rfl, hd⟩
      have B1 := Aside0.mk (below_step Bb.out (show Below wb.heap.size wb w1 from by obtain ⟨n, rfl⟩ := hd.out; exact pw_below_drewN (Below.refl _ _) n))
      clear hd Bb HU
      cases v with
      | false =>
        rw [if_neg (by decide)] at h
        obtain ⟨rfl, rfl⟩ := Prod.mk.inj (Option.some.inj h)
        clear h
        go_wp2
        go_ret2
        exact ⟨rfl, B1.out⟩
      | true =>
        rw [if_pos rfl] at h
        by_cases hF : impl_MostInformed.Fine a0 l1 ∧ (0 ≤ a2 ∧ a2 < a0) ∧ (0 ≤ a3 ∧ a3 ≤ 20)
        case neg => rw [if_neg hF] at h; cases h
        rw [if_pos hF] at h
        have HF := Aside0.mk hF
        obtain ⟨h1, rfl⟩ := Prod.mk.inj (Option.some.inj h)
        have i3 : decide (0 ≤ a2) = true := decide_eq_true HF.out.2.1.1
        have i4 : (0 ≤ a2) = True := eq_true HF.out.2.1.1
        obtain ⟨SH, hSH⟩ : ∃ SH, IntKind.u16.wrap (2 ^ min a2.toNat 16) = SH := ⟨_, rfl⟩
        have hS2 : shl .u16 1 a2 = SH := by rw [← hSH]; unfold shl; rw [Int.one_mul]; rfl
        have HIN := Aside0.mk (show impl_MostInformed.In a0 SH by rw [← hS2]; exact impl_MostInformed.shl_in HF.out.1.1.2 HF.out.2.1.1 HF.out.2.1.2)
        have HU := Aside0.mk (impl_MostInformed.in_u16 HF.out.1.1.2 HIN.out)
        rw [hS2] at h1
        have H := Aside0.mk h1
        clear h hF h1 hS2
        go_wp2_with fail
        refine start_ (n := 12) (S := fun _ => True) (ds := []) #[false, false, false, false, false, false, false, false, false, false, false, false] (by kernel_rfl) rfl rfl trivial (fun _ => ?_); refine with_tabW impl_MostInformed.tab3 impl_MostInformed.bits3 (fun HT_ HW_ => ?_)
        have BW := Aside0.mk (below_step B1.out (below_drew1 (Below.refl w1.heap.size w1)))
        generalize w1.drew = W0 at BW ⊢
        refine pure_ (i := 0) (N := some 33) (v := ?_) (a' := ?_) #[true, false, false, false, false, false, false, false, false, false, false, false] rfl rfl (any_of HT_.out (by kernel_rfl)) (fun _ _ _ h => h) (Or.inl ⟨by rfl, ?_⟩) ?_ ?_
        rotate_left
        · intro w'
          go_simp
          with_reducible rfl
        rotate_left
        · simp only [Act.put, List.setIfInBounds_toArray, List.set_cons_zero, List.set_cons_succ, i64_w, i32_w]
          rfl
        refine pure_ (i := 1) (N := some 34) (v := ?_) (a' := ?_) #[true, true, false, false, false, false, false, false, false, false, false, false] rfl rfl (any_of HT_.out (by kernel_rfl)) (fun _ _ _ h => h) (Or.inl ⟨by rfl, ?_⟩) ?_ ?_
        rotate_left
        · intro w'
          go_simp
          with_reducible rfl
        rotate_left
        · simp only [Act.put, List.setIfInBounds_toArray, List.set_cons_zero, List.set_cons_succ, i64_w, i32_w]
          rfl
        refine pure_ (i := 4) (N := some 37) (v := ?_) (a' := ?_) #[true, true, false, false, true, false, false, false, false, false, false, false] rfl rfl (any_of HT_.out (by kernel_rfl)) (fun _ _ _ h => h) (Or.inl ⟨by rfl, ?_⟩) ?_ ?_
        rotate_left
        · intro w'
          go_simp
          with_reducible rfl
        rotate_left
        · simp only [Act.put, List.setIfInBounds_toArray, List.set_cons_zero, List.set_cons_succ, i64_w, i32_w]
          rfl
        refine pure_ (i := 5) (N := some 38) (v := ?_) (a' := ?_) #[true, true, false, false, true, true, false, false, false, false, false, false] rfl rfl (any_of HT_.out (by kernel_rfl)) (fun _ _ _ h => h) (Or.inl ⟨by rfl, ?_⟩) ?_ ?_
        rotate_left
        · intro w'
          go_simp
          with_reducible rfl
        rotate_left
        · simp only [Act.put, List.setIfInBounds_toArray, List.set_cons_zero, List.set_cons_succ, i64_w, i32_w]
          rfl
        refine join_ (σ := Nat × Nat × Nat) 2 #[true, true, true, true, true, true, true, true, true, true, false, false] (fun s => [(35, .agg #[.int .i64 a0, .slice A1 l1.length c1, .map (some s.1)]), (36, .map (some s.2.1)), (39, .map (some s.2.1)), (10, .pointer (some ⟨s.2.2, 0, none⟩))]) (fun s W => Aside0 (Below w.heap.size w W) ∧ Aside0 (w.heap.size ≤ s.2.1 ∧ impl_MostInformed.Holds W s.2.1 (fun x => False ∨ x = SH)) ∧ Aside0 (w.heap.size ≤ s.2.2 ∧ W.heap[s.2.2]? = some (.cells #[.int .i64 a0, .slice A1 l1.length c1, .map (some s.1)] 61 (0, 0)))) ?cont (fun hjoin => ?_)
        case cont =>
          rintro ⟨b, g, p⟩ W ⟨BW, FM, FP⟩
          refine norm_ (a' := ?_) ?_ ?_
          rotate_left
          · simp only [putAll, Act.put, List.setIfInBounds_toArray, List.set_cons_zero, List.set_cons_succ]
            rfl
          refine pure_ (i := 10) (N := some 11) (v := ?_) (a' := ?_) #[true, true, true, true, true, true, true, true, true, true, true, false] rfl rfl (any_of HT_.out (by kernel_rfl)) (fun _ _ _ h => h) (Or.inl ⟨by rfl, ?_⟩) ?_ ?_
          rotate_left
          · intro w'
            go_simp
            with_reducible rfl
          rotate_left
          · simp only [Act.put, List.setIfInBounds_toArray, List.set_cons_zero, List.set_cons_succ, i64_w, i32_w]
            rfl

          refine pure_ (i := 11) (N := some 12) (v := ?_) (a' := ?_) #[true, true, true, true, true, true, true, true, true, true, true, true] rfl rfl (any_of HT_.out (by kernel_rfl)) (fun _ _ _ h => h) (Or.inl ⟨by rfl, ?_⟩) ?_ ?_
          rotate_left
          · intro w'
            go_simp
            with_reducible rfl
          rotate_left
          · simp only [Act.put, List.setIfInBounds_toArray, List.set_cons_zero, List.set_cons_succ, i64_w, i32_w]
            rfl

          refine done_ (done_of HT_.out (by kernel_rfl)) ?_
          have HX := Aside0.mk (show W.cell? ⟨p, 0, none⟩ = some (.int .i64 a0) ∧ W.cell? ⟨p, 1, none⟩ = some (.slice A1 l1.length c1) ∧ W.cell? ⟨p, 2, none⟩ = some (.map (some b)) from ⟨(blk_cell FP.out.2 0).trans rfl, (blk_cell FP.out.2 1).trans rfl, (blk_cell FP.out.2 2).trans rfl⟩)
          have HP := Aside0.mk (show w.heap.size ≤ p from FP.out.1)
          have MM := Aside0.mk (show w.heap.size ≤ g ∧ impl_MostInformed.Holds W g (fun x => x ∈ impl_MostInformed.S l1 SH 0) from ⟨FM.out.1, FM.out.2.congr (fun s => by simp [impl_MostInformed.S])⟩)
          clear FM FP HT_ HW_
          go_wp2
          go_loopg [11, 41] (a3.toNat + 1) (fun gg v11 v41 wr => ∃ (i g : Nat), v11 = .map (some g) ∧ v41 = .int .i64 (i : Int) ∧ Aside0 (i ≤ a3.toNat ∧ a3.toNat + 1 - i ≤ gg) ∧ Aside0 (w.heap.size ≤ g ∧ impl_MostInformed.Holds wr g (fun x => x ∈ impl_MostInformed.S l1 SH i)) ∧ Aside0 (wr.cell? ⟨p, 0, none⟩ = some (.int .i64 a0) ∧ wr.cell? ⟨p, 1, none⟩ = some (.slice A1 l1.length c1) ∧ wr.cell? ⟨p, 2, none⟩ = some (.map (some b))) ∧ Aside0 (Below w.heap.size w wr))
          case atStart => exact ⟨0, g, rfl, rfl, ⟨Nat.zero_le _, by omega⟩, MM, HX, BW⟩
          case round =>
            clear MM HX BW
            obtain ⟨i, g, rfl, rfl, HI, MM, HX, BW⟩ := hrel
            by_cases hi : (i : Int) < a3
            · have i1 : decide ((i : Int) < a3) = true := decide_eq_true hi
              have i2 : ((i : Int) < a3) = True := eq_true hi
              have HII := Aside0.mk hi
              have hmm := @run_makeMap Try.prog
              obtain ⟨gn, hgn⟩ : ∃ gn, gn = wr.heap.size := ⟨_, rfl⟩
              have hlt : p < wr.heap.size := World.block_lt_of_cell? wr _ HX.out.1
              have hba := below_alloc (Below.refl wr.heap.size wr) (.map #[] 0)
              have hnew := heap_alloc_new wr (.map #[] 0)
              obtain ⟨D, hown, hh⟩ := MM.out.2.below hba
              obtain ⟨w2, hrun, hrg, hgr, hsz⟩ := hown.range (Go.Maps.int_keyed Try.underlying63) Try.underlying64
              have hbg : Below wr.heap.size wr w2 := hba.trans ⟨hgr.os, hgr.tape, hgr.output, hgr.size, fun i hi => hgr.block i (Nat.lt_of_lt_of_le hi hba.size) (by simp)⟩
              have N2 := Aside0.mk (show impl_MostInformed.Holds w2 gn (fun _ => False) by rw [hgn]; exact (impl_MostInformed.Holds.made hnew).kept hgr (by simp))
              have X2 := Aside0.mk (show w2.cell? ⟨p, 0, none⟩ = some (.int .i64 a0) ∧ w2.cell? ⟨p, 1, none⟩ = some (.slice A1 l1.length c1) ∧ w2.cell? ⟨p, 2, none⟩ = some (.map (some b)) from ⟨(hbg.cell (p := ⟨p, 0, none⟩) hlt).trans HX.out.1, (hbg.cell (p := ⟨p, 1, none⟩) hlt).trans HX.out.2.1, (hbg.cell (p := ⟨p, 2, none⟩) hlt).trans HX.out.2.2⟩)
              have B2 := Aside0.mk (below_step BW.out hbg)
              obtain ⟨r, hr⟩ : ∃ r, r = (wr.alloc (.map #[] 0)).heap.size := ⟨_, rfl⟩
              have HNE := Aside0.mk (show p < gn ∧ g < gn ∧ r = gn + 1 ∧ w.heap.size ≤ gn from ⟨by omega, by have := MM.out.2.lt; omega, by rw [hr, hgn]; simp, by rw [hgn]; exact BW.out.size⟩)
              rw [← hr] at hrun hrg
              have HRG := Aside0.mk hrg
              have HH := Aside0.mk hh
              have HGM := Aside0.mk MM.out.1
              clear hi hlt hba hnew hown hgr hsz hbg hrg hh MM BW HX hr
              go_wp2
              rw [← hgn]
              clear hrun hmm hgn i1 i2
              go_loopg [14] (Go.Maps.size D + 1) (fun gg v14 wr => ∃ (left : Lit → Bool) (cnt : Nat), Aside0 (cnt + 1 ≤ gg) ∧ Aside0 (wr.ranges Try.prog 63 (plainElem Try.prog 4) g r 65536 D left cnt) ∧ Aside0 (impl_MostInformed.Holds wr gn (fun x => ∃ t, t ∈ impl_MostInformed.S l1 SH i ∧ left (.int .u16 t) = false ∧ ∃ rd ∈ impl_spread_rounds.rounds t l1, x = impl_MostInformed.bh t rd)) ∧ Aside0 (wr.cell? ⟨p, 0, none⟩ = some (.int .i64 a0) ∧ wr.cell? ⟨p, 1, none⟩ = some (.slice A1 l1.length c1) ∧ wr.cell? ⟨p, 2, none⟩ = some (.map (some b))) ∧ Aside0 (Below w.heap.size w wr))
              case atStart => exact ⟨Go.Maps.has D, Go.Maps.size D, ⟨Nat.le_refl _⟩, HRG, ⟨N2.out.congr (fun s => ⟨False.elim, fun ⟨t, ht, hl, _⟩ => by have h1 := (HH.out (.int .u16 t)).2 ⟨t, ht, rfl⟩; rw [h1] at hl; cases hl⟩)⟩, X2, B2⟩
              case round =>
                clear HRG N2 X2 B2
                obtain ⟨left, cnt, HG, HR, HN, HX, BW⟩ := hrel
                rcases HR.out.next (Go.Maps.int_keyed Try.underlying63) 0 with ⟨h0, hl, hrun⟩ | ⟨key, v, kl, y, w3, cnt', hkey, hlk, hv, hat, hrun, hrg1, hlt, hgr, hsz, hen⟩
                · have HN2 := Aside0.mk (show w.heap.size ≤ gn ∧ impl_MostInformed.Holds wr gn (fun x => x ∈ impl_MostInformed.S l1 SH (i + 1)) from ⟨HNE.out.2.2.2, HN.out.congr (fun x => by
                    show _ ↔ x ∈ (impl_MostInformed.S l1 SH i).flatMap (fun t => (impl_spread_rounds.rounds t l1).map (fun r => impl_MostInformed.bh t r))
                    rw [List.mem_flatMap]
                    constructor
                    · rintro ⟨t, ht, _, rd, hrd, rfl⟩
                      exact ⟨t, ht, List.mem_map.2 ⟨rd, hrd, rfl⟩⟩
                    · rintro ⟨t, ht, hx⟩
                      obtain ⟨rd, hrd, rfl⟩ := List.mem_map.1 hx
                      exact ⟨t, ht, hl _, rd, hrd, rfl⟩)⟩)
                  have hwi : wrap64 ((i : Int) + 1) = ((i + 1 : Nat) : Int) := by have := HII.out; have := HF.out.2.2; unfold wrap64; omega
                  go_wp2
                  clear hrun h0 hl
                  go_roundg (a3.toNat + 1 - (i + 1))
                  case measure => have := HI.out; have := HII.out; omega
                  case rel => exact ⟨i + 1, gn, rfl, by rw [hwi], ⟨by have := HII.out; omega, by omega⟩, HN2, HX, BW⟩
                · obtain ⟨t, rfl, rfl, hwf⟩ := Go.Maps.keyOf_int_inv Try.underlying63 hkey
                  obtain ⟨s, hs, hst⟩ := (HH.out _).1 (Go.Maps.has_true_of_atKey hat)
                  injection hst with _ hst
                  subst hst
                  have HTS := Aside0.mk hs
                  have HIT := Aside0.mk (impl_MostInformed.S_in HF.out.1 HIN.out i t hs)
                  have HLK := Aside0.mk hlk
                  have HCN := Aside0.mk hlt
                  have hpr : p ≠ r := fun e => by have := HNE.out; omega
                  have hp3 : p < wr.heap.size := World.block_lt_of_cell? wr _ HX.out.1
                  have hbk := hgr.block p hp3 (fun e => hpr (Option.some.inj e))
                  have hx0 := impl_MostInformed.cell_eq HX.out.1 hbk
                  have hx1 := impl_MostInformed.cell_eq HX.out.2.1 hbk
                  have hx2 := impl_MostInformed.cell_eq HX.out.2.2 hbk
                  have X3 := Aside0.mk (And.intro hx0 (And.intro hx1 hx2))
                  have N3 := Aside0.mk (HN.out.kept hgr (fun e => by have h1 := Option.some.inj e; have h2 := HNE.out; omega))
                  have R3 := Aside0.mk hrg1
                  have B3 := Aside0.mk (show Below w.heap.size w w3 from BW.out.trans ⟨hgr.os, hgr.tape, hgr.output, hgr.size, fun i hi => hgr.block i (Nat.lt_of_lt_of_le hi BW.out.size) (fun e => by have h1 := Option.some.inj e; have h2 := HNE.out; omega)⟩)
                  clear hs hlk hlt hpr hp3 hbk hkey hv hat hrg1 hgr hsz HR HN HX BW hwf
                  go_wp2_with fail
                  clear hrun hen
                  refine (impl_spread_rounds.calls l1 HF.out.1.2.1 HF.out.1.2.2.1 t a0 (.map (some b)) rfl (HF.out.1.2.2.2.1 t) A1 c1 w3 (Kd.C_below HR1.out B3.out) HC1.out).mono ?_
                  rintro e w4 ⟨v52, rfl, hs4, hb4⟩
                  obtain ⟨rows, hrows⟩ : ∃ rows, rows = impl_spread_rounds.rounds t l1 := ⟨_, rfl⟩
                  rw [← hrows] at hs4
                  obtain ⟨A4, c4, rfl⟩ := Kd.S_slice hs4
                  obtain ⟨s0, hs0⟩ : ∃ s0, s0 = w3.heap.size := ⟨_, rfl⟩
                  have HS0 := Aside0.mk (show r < s0 ∧ gn < s0 ∧ g < s0 ∧ p < s0 ∧ s0 ≤ w4.heap.size by
                    have h1 := R3.out.lt
                    have h2 := N3.out.lt
                    have h3 := R3.out.owns.lt
                    have h4 := World.block_lt_of_cell? w3 _ hx0
                    have h5 := hb4.size
                    rw [hs0]
                    exact ⟨h1, h2, h3, h4, h5⟩)
                  rw [← hs0] at hs4
                  have S4 := Aside0.mk hs4
                  have hlt : p < w3.heap.size := World.block_lt_of_cell? w3 _ hx0
                  have X4 := Aside0.mk (show w4.cell? ⟨p, 0, none⟩ = some (.int .i64 a0) ∧ w4.cell? ⟨p, 1, none⟩ = some (.slice A1 l1.length c1) ∧ w4.cell? ⟨p, 2, none⟩ = some (.map (some b)) from ⟨(hb4.cell (p := ⟨p, 0, none⟩) hlt).trans hx0, (hb4.cell (p := ⟨p, 1, none⟩) hlt).trans hx1, (hb4.cell (p := ⟨p, 2, none⟩) hlt).trans hx2⟩)
                  have R4 := Aside0.mk (R3.out.kept (row := none) ⟨hb4.os, hb4.tape, hb4.output, hb4.size, fun i hi _ => hb4.block i hi⟩ (by simp) (by simp))
                  have N4 := Aside0.mk (N3.out.below hb4)
                  have B4 := Aside0.mk (below_step B3.out hb4)
                  have HROWS := Aside0.mk hrows
                  have HRL := Aside0.mk (show rows.length ≤ 1000000000 by rw [hrows]; exact HF.out.1.2.2.2.1 t)
                  clear hs4 hb4 hrows hs0 hlt hx0 hx1 hx2 X3 R3 N3 B3
                  go_wp2
                  go_loopg [54] (rows.length + 1) (fun gg v54 wr => ∃ (y : Nat), v54 = .int .i64 (y : Int) ∧ Aside0 (y ≤ rows.length ∧ rows.length + 1 - y ≤ gg) ∧ Aside0 (impl_MostInformed.Holds wr gn (fun x => (∃ t, t ∈ impl_MostInformed.S l1 SH i ∧ left (.int .u16 t) = false ∧ ∃ rd ∈ impl_spread_rounds.rounds t l1, x = impl_MostInformed.bh t rd) ∨ ∃ rd ∈ rows.take y, x = impl_MostInformed.bh t rd)) ∧ Aside0 (w4.grownBy wr (some gn)))
                  case atStart => exact ⟨0, rfl, ⟨Nat.zero_le _, by omega⟩, ⟨N4.out.congr (fun x => by simp)⟩, ⟨impl_MostInformed.grown_refl _ _⟩⟩
                  case round =>
                    clear N4
                    obtain ⟨y, rfl, HY, HN, HGW⟩ := hrel
                    by_cases hy : y < rows.length
                    · obtain ⟨g4, A5, c5, rd, hA4, hg4, hdr, hcell, hR5⟩ := impl_MostInformed.elemS S4.out y hy
                      subst hA4
                      have hgb : ∀ k, k ≠ gn → k < w4.heap.size → wr.heap[k]? = w4.heap[k]? := fun k h1 h2 => HGW.out.block k h2 (fun e => h1 (Option.some.inj e))
                      have hcr : wr.cell? ⟨g4, y, none⟩ = some (.slice A5 rd.length c5) := impl_MostInformed.cell_eq hcell (hgb g4 (by have := HS0.out; omega) (World.block_lt_of_cell? w4 _ hcell))
                      have R5 := Aside0.mk (Kd.R_grown (Kd.R_mono (Kd.R_bound hR5) (ok' := fun k => s0 ≤ k) (fun k hk => hk.2.1)) HGW.out (fun k hk e => by have h1 := Option.some.inj e; have h2 := HS0.out; omega))
                      have hrm : rd ∈ rows := List.mem_of_mem_drop (i := y) (by rw [hdr]; simp)
                      have hrx := impl_MostInformed.rounds_mem t l1 rd (by rw [← HROWS.out]; exact hrm)
                      have HBH := Aside0.mk (impl_MostInformed.behind_f rd (by have := HF.out.1.2.1; omega) (fun x hx => HF.out.1.2.2.1 x (hrx.2 x hx)) t)
                      have HB2 := Aside0.mk (impl_MostInformed.in_u16 HF.out.1.1.2 (HF.out.1.2.2.2.2 t HIT.out rd (by rw [← HROWS.out]; exact hrm)))
                      have HTK := Aside0.mk (show rows.take (y + 1) = rows.take y ++ [rd] by
                        have e : rows[y]? = some rd := by
                          have h1 := congrArg (fun l => l[0]?) hdr
                          simpa [List.getElem?_drop] using h1
                        rw [List.take_add_one, e]
                        rfl)
                      have HYY := Aside0.mk hy
                      have HC5 := Aside0.mk (Kd.R_reads' R5.out).2.2
                      have HL5 := Aside0.mk (Kd.R_reads' R5.out).2.1
                      have y1 : decide ((y : Int) < (rows.length : Int)) = true := decide_eq_true (by omega)
                      have y2 : ((y : Int) < (rows.length : Int)) = True := eq_true (by omega)
                      have y3 : (y < rows.length) = True := eq_true hy
                      clear hcell hR5 hrm hrx hdr hy hgb hg4 R5
                      go_wp2_with fail
                      refine (impl_behind.calls 1001 t A5 c5 rd (impl_MostInformed.bh t rd) wr HC5.out HL5.out HBH.out).mono ?_
                      rintro e w5 ⟨rfl, hb5⟩
                      obtain ⟨w6, hrun6, hadd, hgr6⟩ := (HN.out.below hb5).add HB2.out.1 HB2.out.2
                      have HG6 := Aside0.mk (show w4.grownBy w6 (some gn) from impl_MostInformed.grown_trans (impl_MostInformed.grown_below HGW.out hb5) hgr6)
                      have N6 := Aside0.mk (show impl_MostInformed.Holds w6 gn (fun x => (∃ t, t ∈ impl_MostInformed.S l1 SH i ∧ left (.int .u16 t) = false ∧ ∃ rd ∈ impl_spread_rounds.rounds t l1, x = impl_MostInformed.bh t rd) ∨ ∃ rd ∈ rows.take (y + 1), x = impl_MostInformed.bh t rd) from hadd.congr (fun x => by
                        rw [HTK.out]
                        constructor
                        · rintro ((h | ⟨q, hq, h⟩) | h)
                          · exact .inl h
                          · exact .inr ⟨q, by simp [hq], h⟩
                          · exact .inr ⟨rd, by simp, h⟩
                        · rintro (h | ⟨q, hq, h⟩)
                          · exact .inl (.inl h)
                          · rcases List.mem_append.1 hq with hq | hq
                            · exact .inl (.inr ⟨q, hq, h⟩)
                            · rw [List.mem_singleton.1 hq] at h
                              exact .inr h))
                      have HWY := Aside0.mk (show wrap64 ((y : Int) + 1) = ((y + 1 : Nat) : Int) by have := HYY.out; have := HRL.out; unfold wrap64; omega)
                      clear hb5 hadd hgr6 hcr
                      go_wp2
                      clear hrun6 y1 y2 y3
                      go_roundg (rows.length + 1 - (y + 1))
                      case measure => have := HY.out; have := HYY.out; omega
                      case rel => exact ⟨y + 1, by rw [HWY.out], ⟨by have := HYY.out; omega, by omega⟩, N6, HG6⟩
                    · have y1 : decide ((y : Int) < (rows.length : Int)) = false := decide_eq_false (by omega)
                      have y2 : ((y : Int) < (rows.length : Int)) = False := eq_false (by omega)
                      have y3 : (y < rows.length) = False := eq_false hy
                      have hgb : ∀ k, k ≠ gn → k < w4.heap.size → wr.heap[k]? = w4.heap[k]? := fun k h1 h2 => HGW.out.block k h2 (fun e => h1 (Option.some.inj e))
                      have hpb := hgb p (by have := HNE.out; omega) (by have := HS0.out; omega)
                      have X6 := Aside0.mk (show wr.cell? ⟨p, 0, none⟩ = some (.int .i64 a0) ∧ wr.cell? ⟨p, 1, none⟩ = some (.slice A1 l1.length c1) ∧ wr.cell? ⟨p, 2, none⟩ = some (.map (some b)) from ⟨impl_MostInformed.cell_eq X4.out.1 hpb, impl_MostInformed.cell_eq X4.out.2.1 hpb, impl_MostInformed.cell_eq X4.out.2.2 hpb⟩)
                      have R6 := Aside0.mk (R4.out.kept HGW.out (fun e => by have h1 := Option.some.inj e; have h2 := HNE.out; omega) (fun e => by have h1 := Option.some.inj e; have h2 := HNE.out; omega))
                      have B6 := Aside0.mk (show Below w.heap.size w wr from B4.out.trans ⟨HGW.out.os, HGW.out.tape, HGW.out.output, HGW.out.size, fun i hi => HGW.out.block i (Nat.lt_of_lt_of_le hi B4.out.size) (fun e => by have h1 := Option.some.inj e; have h2 := HNE.out; omega)⟩)
                      have sk : ∀ q : Int, (Lit.int .u16 q).sameKey (.int .u16 t) = decide (q = t) := fun q => by
                        by_cases e : q = t
                        · subst e; simp [Lit.sameKey]
                        · simp [Lit.sameKey, e]
                      have N6 := Aside0.mk (show impl_MostInformed.Holds wr gn (fun x => ∃ q, q ∈ impl_MostInformed.S l1 SH i ∧ (left (.int .u16 q) && !(Lit.int .u16 q).sameKey (.int .u16 t)) = false ∧ ∃ rd ∈ impl_spread_rounds.rounds q l1, x = impl_MostInformed.bh q rd) from HN.out.congr (fun x => by
                        rw [List.take_of_length_le (by omega)]
                        constructor
                        · rintro (⟨q, hq, hl, h⟩ | h)
                          · exact ⟨q, hq, by rw [hl]; rfl, h⟩
                          · exact ⟨t, HTS.out, by rw [sk]; simp, by rw [← HROWS.out]; exact h⟩
                        · rintro ⟨q, hq, hl, h⟩
                          rw [sk] at hl
                          by_cases e : q = t
                          · subst e
                            exact .inr (by rw [HROWS.out]; exact h)
                          · exact .inl ⟨q, hq, by simpa [e] using hl, h⟩))
                      clear hy hgb hpb sk HN HGW
                      go_wp2
                      go_roundg (cnt' + 1)
                      case measure => have := HG.out; have := HCN.out; omega
                      case rel => exact ⟨_, cnt', ⟨Nat.le_refl _⟩, R6, N6, X6, B6⟩
            · have i1 : decide ((i : Int) < a3) = false := decide_eq_false hi
              have i2 : ((i : Int) < a3) = False := eq_false hi
              obtain rfl : i = a3.toNat := by have := HI.out; omega
              obtain ⟨D, hown, hh⟩ := MM.out.2
              obtain ⟨w2, hrun, hrg, hgr, hsz⟩ := hown.range (Go.Maps.int_keyed Try.underlying63) Try.underlying64
              have HLT := Aside0.mk (show w.heap.size ≤ wr.heap.size from BW.out.size)
              have B2 := Aside0.mk (show Below w.heap.size w w2 from BW.out.trans ⟨hgr.os, hgr.tape, hgr.output, hgr.size, fun i hi => hgr.block i (Nat.lt_of_lt_of_le hi BW.out.size) (by simp)⟩)
              obtain ⟨r, hr⟩ : ∃ r, r = wr.heap.size := ⟨_, rfl⟩
              rw [← hr] at hrun hrg HLT
              have HRG := Aside0.mk hrg
              have HH := Aside0.mk hh
              clear hi hown hgr hsz hrg hh MM BW HX hr
              go_wp2
              clear hrun i1 i2
              go_loopg [12, 17] (Go.Maps.size D + 1) (fun gg v12 v17 wr => ∃ (left : Lit → Bool) (cnt : Nat) (m : Int), v12 = .int .i64 m ∧ Aside0 (cnt + 1 ≤ gg) ∧ Aside0 (wr.ranges Try.prog 63 (plainElem Try.prog 4) g r 65536 D left cnt) ∧ Aside0 (1 ≤ m ∧ (∀ t, t ∈ impl_MostInformed.S l1 SH a3.toNat → left (.int .u16 t) = false → impl_MostInformed.ones t ≤ m) ∧ (m = 1 ∨ ∃ t, t ∈ impl_MostInformed.S l1 SH a3.toNat ∧ m = impl_MostInformed.ones t)) ∧ Aside0 (Below w.heap.size w wr))
              case atStart => exact ⟨Go.Maps.has D, Go.Maps.size D, 1, rfl, ⟨Nat.le_refl _⟩, HRG, ⟨Int.le_refl _, fun t ht hl => (by have h1 := (HH.out (.int .u16 t)).2 ⟨t, ht, rfl⟩; rw [h1] at hl; cases hl), .inl rfl⟩, B2⟩
              case round =>
                clear HRG B2
                obtain ⟨left, cnt, m, rfl, HG, HR, HM, BW⟩ := hrel
                rcases HR.out.next (Go.Maps.int_keyed Try.underlying63) 0 with ⟨h0, hl, hrun⟩ | ⟨key, v, kl, y, w3, cnt', hkey, hlk, hv, hat, hrun, hrg1, hlt, hgr, hsz, hen⟩
                · have hm : impl_MostInformed.most (impl_MostInformed.S l1 SH a3.toNat) = m := impl_MostInformed.most_eq HM.out.1 (fun s hs => HM.out.2.1 s hs (hl _)) HM.out.2.2
                  have h := H.out
                  rw [hm] at h
                  subst h
                  clear hm
                  go_wp2
                  go_ret2
                  exact ⟨rfl, BW.out⟩
                · obtain ⟨t, rfl, rfl, hwf⟩ := Go.Maps.keyOf_int_inv Try.underlying63 hkey
                  obtain ⟨s, hs, hst⟩ := (HH.out _).1 (Go.Maps.has_true_of_atKey hat)
                  injection hst with _ hst
                  subst hst
                  have HTS := Aside0.mk hs
                  have hu := impl_MostInformed.in_u16 HF.out.1.1.2 (impl_MostInformed.S_in HF.out.1 HIN.out _ t hs)
                  have HON := Aside0.mk (show bits_OnesCount16.f t = some (impl_MostInformed.ones t) by unfold bits_OnesCount16.f; rw [if_pos (by omega)]; rfl)
                  have HCN := Aside0.mk hlt
                  have R3 := Aside0.mk hrg1
                  have B3 := Aside0.mk (show Below w.heap.size w w3 from BW.out.trans ⟨hgr.os, hgr.tape, hgr.output, hgr.size, fun i hi => hgr.block i (Nat.lt_of_lt_of_le hi BW.out.size) (fun e => by have h1 := Option.some.inj e; have h2 := HLT.out; omega)⟩)
                  clear hs hlk hlt hkey hv hat hrg1 hgr hsz HR BW hwf hu
                  go_wp2_with fail
                  clear hrun hen
                  refine (bits_OnesCount16.calls t (impl_MostInformed.ones t) w3 HON.out).mono ?_
                  rintro e w4 ⟨rfl, hd⟩
                  have hb4 : Below w3.heap.size w3 w4 := by obtain ⟨n, rfl⟩ := hd.out; exact pw_below_drewN (Below.refl _ _) n
                  have R4 := Aside0.mk (R3.out.kept (row := none) ⟨hb4.os, hb4.tape, hb4.output, hb4.size, fun i hi _ => hb4.block i hi⟩ (by simp) (by simp))
                  have B4 := Aside0.mk (below_step B3.out hb4)
                  have sk : ∀ q : Int, (Lit.int .u16 q).sameKey (.int .u16 t) = decide (q = t) := fun q => by
                    by_cases e : q = t
                    · subst e; simp [Lit.sameKey]
                    · simp [Lit.sameKey, e]
                  obtain ⟨o, ho⟩ : ∃ o, o = impl_MostInformed.ones t := ⟨_, rfl⟩
                  have HM4 := Aside0.mk (show 1 ≤ max m o ∧ (∀ q, q ∈ impl_MostInformed.S l1 SH a3.toNat → (left (.int .u16 q) && !(Lit.int .u16 q).sameKey (.int .u16 t)) = false → impl_MostInformed.ones q ≤ max m o) ∧ (max m o = 1 ∨ ∃ q, q ∈ impl_MostInformed.S l1 SH a3.toNat ∧ max m o = impl_MostInformed.ones q) from by
                    obtain ⟨h1, h2, h3⟩ := HM.out
                    refine ⟨by omega, fun q hq hl => ?_, ?_⟩
                    · rw [sk] at hl
                      by_cases e : q = t
                      · rw [e, ← ho]; omega
                      · have := h2 q hq (by simpa [e] using hl)
                        omega
                    · rcases Int.le_total m o with e | e
                      · rw [Int.max_eq_right e]
                        exact .inr ⟨t, HTS.out, ho⟩
                      · rw [Int.max_eq_left e]
                        exact h3)
                  rw [← ho]
                  clear hd hb4 sk HM R3 B3 ho
                  by_cases hmo : o ≤ m
                  · have e1 : max m o = m := Int.max_eq_left hmo
                    have e2 : (o ≤ m) = True := eq_true hmo
                    have e3 : decide (o ≤ m) = true := decide_eq_true hmo
                    rw [e1] at HM4
                    go_wp2
                    go_roundg (cnt' + 1)
                    case measure => have := HG.out; have := HCN.out; omega
                    case rel => exact ⟨_, cnt', m, rfl, ⟨Nat.le_refl _⟩, R4, HM4, B4⟩
                  · have e1 : max m o = o := Int.max_eq_right (by omega)
                    have e2 : (o ≤ m) = False := eq_false hmo
                    have e3 : decide (o ≤ m) = false := decide_eq_false hmo
                    rw [e1] at HM4
                    go_wp2
                    go_roundg (cnt' + 1)
                    case measure => have := HG.out; have := HCN.out; omega
                    case rel => exact ⟨_, cnt', o, rfl, ⟨Nat.le_refl _⟩, R4, HM4, B4⟩
        refine three_ (i := 2) (j := 3) (k := 8) (Ni := some 35) (Nj := some 36) (Nk := some 10) #[true, true, true, false, true, true, false, false, false, false, false, false] #[true, true, false, true, true, true, false, false, false, false, false, false] #[true, true, false, false, true, true, false, false, true, false, false, false] rfl rfl rfl rfl rfl rfl (three_of HT_.out (by kernel_rfl)) (by decide) (by decide) (by decide) (fun K hK => ?_) (fun K hK => ?_) (fun K hK => ?_)
        · refine goes_ Try.func36 (by kernel_rfl) rfl #[.int .i64 a0, .slice A1 l1.length c1] (by rfl) rfl rfl (by (try simp only [List.map_toArray, List.map_cons, List.map_nil]); rfl) ?_
          refine (impl_spreadOf.calls a0 A1 l1.length c1 W0).mono ?_
          rintro e W1 ⟨b, rfl, hbs, hbm, hb3⟩
          refine ⟨_, rfl, ?_⟩
          have BWn := Aside0.mk (show Below w.heap.size w W1 from below_step BW.out hb3); clear BW; have BW := BWn; clear BWn
          clear hbs hbm hb3
          refine hK.out _ _ trivial (fun _ => ?_)
          clear hK K
          refine norm_ (a' := ?_) ?_ ?_
          rotate_left
          · show Act.put _ (some 35) _ = _
            simp only [Act.put, List.setIfInBounds_toArray, List.set_cons_zero, List.set_cons_succ, i64_w, i32_w]
            rfl
          refine two_ (i := 3) (j := 8) (Ni := some 36) (Nj := some 10) #[true, true, true, true, true, true, false, false, false, false, false, false] #[true, true, true, false, true, true, false, false, true, false, false, false] rfl rfl rfl rfl (two_of HT_.out (by kernel_rfl)) (by decide) (by decide) (fun K hK => ?_) (fun K hK => ?_)
          · refine value_ (v := (.map (some W1.heap.size))) (w1 := W1.alloc (.map #[] 0)) (by rfl) rfl ?_ ?_
            · have hmm := @run_makeMap Try.prog
              first | (go_simp; done) | (go_simp; rfl)
            obtain ⟨g, hg⟩ : ∃ g, g = W1.heap.size := ⟨_, rfl⟩
            have hnew := heap_alloc_new W1 (.map #[] 0)
            have hbl := below_alloc (Below.refl W1.heap.size W1) (.map #[] 0)
            obtain ⟨W2, hW2⟩ : ∃ z, z = W1.alloc (.map #[] 0) := ⟨_, rfl⟩
            rw [← hW2] at hnew hbl
            have FM := Aside0.mk (show w.heap.size ≤ g ∧ impl_MostInformed.Holds W2 g (fun x => False) from ⟨by rw [hg]; exact BW.out.size, by rw [hg]; exact impl_MostInformed.Holds.made hnew⟩)
            have BWn := Aside0.mk (show Below w.heap.size w W2 from below_step BW.out hbl); clear BW; have BW := BWn; clear BWn
            rw [← hg, ← hW2]
            clear hg hW2 hnew hbl
            refine hK.out _ _ trivial (fun _ => ?_)
            clear hK K
            refine norm_ (a' := ?_) ?_ ?_
            rotate_left
            · show Act.put _ (some 36) _ = _
              simp only [Act.put, List.setIfInBounds_toArray, List.set_cons_zero, List.set_cons_succ, i64_w, i32_w]
              rfl
            refine two_ (i := 6) (j := 8) (Ni := none) (Nj := some 10) #[true, true, true, true, true, true, true, false, false, false, false, false] #[true, true, true, true, true, true, false, false, true, false, false, false] rfl rfl rfl rfl (two_of HT_.out (by kernel_rfl)) (by decide) (by decide) (fun K hK => ?_) (fun K hK => ?_)
            · obtain ⟨W3, hrun, hadd, hgr⟩ := FM.out.2.add HU.out.1 HU.out.2
              refine skip_ (w1 := W3) (by rfl) rfl ?_ ?_
              · first | (go_simp; done) | (go_simp; rfl)
              have BWn := Aside0.mk (show Below w.heap.size w W3 from BW.out.trans ⟨hgr.os, hgr.tape, hgr.output, hgr.size, fun i hi => hgr.block i (Nat.lt_of_lt_of_le hi BW.out.size) (fun e => by have h1 := Option.some.inj e; have h2 := FM.out.1; omega)⟩); clear BW; have BW := BWn; clear BWn
              have FMn := Aside0.mk (show w.heap.size ≤ g ∧ impl_MostInformed.Holds W3 g (fun x => False ∨ x = SH) from ⟨FM.out.1, hadd⟩); clear FM; have FM := FMn; clear FMn
              clear hrun hadd hgr
              refine hK.out _ _ trivial (fun _ => ?_)
              clear hK K
              refine pure_ (i := 7) (N := some 39) (v := ?_) (a' := ?_) #[true, true, true, true, true, true, true, true, false, false, false, false] rfl rfl (any_of HT_.out (by kernel_rfl)) (fun _ _ _ h => h) (Or.inl ⟨by rfl, ?_⟩) ?_ ?_
              rotate_left
              · intro w'
                go_simp
                with_reducible rfl
              rotate_left
              · simp only [Act.put, List.setIfInBounds_toArray, List.set_cons_zero, List.set_cons_succ, i64_w, i32_w]
                rfl
              refine one_ (i := 8) (N := some 10) #[true, true, true, true, true, true, true, true, true, false, false, false] rfl rfl (one_of HT_.out (by kernel_rfl)) (by decide) (fun K hK => ?_)
              refine value_ (v := (.pointer (some ⟨W3.heap.size, 0, none⟩))) (w1 := W3.alloc (.cells #[.int .i64 0, .slice none 0 0, .map none] 61)) (by rfl) rfl ?_ ?_
              · first | (go_simp; done) | (go_simp; rfl)
              obtain ⟨p, hp⟩ : ∃ p, p = W3.heap.size := ⟨_, rfl⟩
              have hnew := heap_alloc_new W3 (.cells #[.int .i64 0, .slice none 0 0, .map none] 61)
              have hbl := below_alloc (Below.refl W3.heap.size W3) (.cells #[.int .i64 0, .slice none 0 0, .map none] 61)
              obtain ⟨W4, hW4⟩ : ∃ z, z = W3.alloc (.cells #[.int .i64 0, .slice none 0 0, .map none] 61) := ⟨_, rfl⟩
              rw [← hW4] at hnew hbl
              have FMn := Aside0.mk (show w.heap.size ≤ g ∧ impl_MostInformed.Holds W4 g (fun x => False ∨ x = SH) from ⟨FM.out.1, FM.out.2.below hbl⟩); clear FM; have FM := FMn; clear FMn
              have FP := Aside0.mk (show w.heap.size ≤ p ∧ W4.heap[p]? = some (.cells #[.int .i64 0, .slice none 0 0, .map none] 61 (0, 0)) from ⟨by rw [hp]; exact BW.out.size, by rw [hp]; exact hnew⟩)
              have BWn := Aside0.mk (show Below w.heap.size w W4 from below_step BW.out hbl); clear BW; have BW := BWn; clear BWn
              rw [← hp, ← hW4]
              clear hp hW4 hnew hbl
              refine hK.out _ _ trivial (fun _ => ?_)
              clear hK K
              refine norm_ (a' := ?_) ?_ ?_
              rotate_left
              · show Act.put _ (some 10) _ = _
                simp only [Act.put, List.setIfInBounds_toArray, List.set_cons_zero, List.set_cons_succ, i64_w, i32_w]
                rfl
              refine one_ (i := 9) (N := none) #[true, true, true, true, true, true, true, true, true, true, false, false] rfl rfl (one_of HT_.out (by kernel_rfl)) (by decide) (fun K hK => ?_)
              have q0 := FP.out.2
              have q1 := blk_set q0 0 (.int .i64 a0)
              have q2 := blk_set q1 1 (.slice A1 l1.length c1)
              have q3 := blk_set q2 2 (.map (some b))
              refine skip_ (w1 := (((W4.setCell ⟨p, 0, none⟩ (.int .i64 a0)).setCell ⟨p, 1, none⟩ (.slice A1 l1.length c1)).setCell ⟨p, 2, none⟩ (.map (some b)))) (by rfl) rfl ?_ ?_
              · have x0 := (blk_cell q0 0).trans rfl
                have x1 := (blk_cell q1 1).trans rfl
                have x2 := (blk_cell q2 2).trans rfl
                have y0 := blk_frozen q0 0
                have y1 := blk_frozen q1 1
                have y2 := blk_frozen q2 2
                go_simp
              have BWn := Aside0.mk (show Below w.heap.size w (((W4.setCell ⟨p, 0, none⟩ (.int .i64 a0)).setCell ⟨p, 1, none⟩ (.slice A1 l1.length c1)).setCell ⟨p, 2, none⟩ (.map (some b))) from ((BW.out.setCell (p := ⟨p, 0, none⟩) FP.out.1 _).setCell (p := ⟨p, 1, none⟩) FP.out.1 _).setCell (p := ⟨p, 2, none⟩) FP.out.1 _); clear BW; have BW := BWn; clear BWn
              have hgp := FM.out.2.ne q0
              have FMn := Aside0.mk (show w.heap.size ≤ g ∧ impl_MostInformed.Holds (((W4.setCell ⟨p, 0, none⟩ (.int .i64 a0)).setCell ⟨p, 1, none⟩ (.slice A1 l1.length c1)).setCell ⟨p, 2, none⟩ (.map (some b))) g (fun x => False ∨ x = SH) from ⟨FM.out.1, ((FM.out.2.set hgp _).set hgp _).set hgp _⟩); clear FM; have FM := FMn; clear FMn
              clear hgp
              obtain ⟨W5, hW5⟩ : ∃ z, z = (((W4.setCell ⟨p, 0, none⟩ (.int .i64 a0)).setCell ⟨p, 1, none⟩ (.slice A1 l1.length c1)).setCell ⟨p, 2, none⟩ (.map (some b))) := ⟨_, rfl⟩
              rw [← hW5] at BW FM q3 ⊢
              have FPn := Aside0.mk (show w.heap.size ≤ p ∧ W5.heap[p]? = some (.cells #[.int .i64 a0, .slice A1 l1.length c1, .map (some b)] 61 (0, 0)) from ⟨FP.out.1, q3⟩); clear FP; have FP := FPn; clear FPn
              clear q0 q1 q2 q3 hW5
              refine hK.out _ _ trivial (fun _ => ?_)
              clear hK K
              exact hjoin ⟨b, g, p⟩ _ ⟨BW, FM, FP⟩
            · refine value_ (v := (.pointer (some ⟨W2.heap.size, 0, none⟩))) (w1 := W2.alloc (.cells #[.int .i64 0, .slice none 0 0, .map none] 61)) (by rfl) rfl ?_ ?_
              · first | (go_simp; done) | (go_simp; rfl)
              obtain ⟨p, hp⟩ : ∃ p, p = W2.heap.size := ⟨_, rfl⟩
              have hnew := heap_alloc_new W2 (.cells #[.int .i64 0, .slice none 0 0, .map none] 61)
              have hbl := below_alloc (Below.refl W2.heap.size W2) (.cells #[.int .i64 0, .slice none 0 0, .map none] 61)
              obtain ⟨W3, hW3⟩ : ∃ z, z = W2.alloc (.cells #[.int .i64 0, .slice none 0 0, .map none] 61) := ⟨_, rfl⟩
              rw [← hW3] at hnew hbl
              have FMn := Aside0.mk (show w.heap.size ≤ g ∧ impl_MostInformed.Holds W3 g (fun x => False) from ⟨FM.out.1, FM.out.2.below hbl⟩); clear FM; have FM := FMn; clear FMn
              have FP := Aside0.mk (show w.heap.size ≤ p ∧ W3.heap[p]? = some (.cells #[.int .i64 0, .slice none 0 0, .map none] 61 (0, 0)) from ⟨by rw [hp]; exact BW.out.size, by rw [hp]; exact hnew⟩)
              have BWn := Aside0.mk (show Below w.heap.size w W3 from below_step BW.out hbl); clear BW; have BW := BWn; clear BWn
              rw [← hp, ← hW3]
              clear hp hW3 hnew hbl
              refine hK.out _ _ trivial (fun _ => ?_)
              clear hK K
              refine norm_ (a' := ?_) ?_ ?_
              rotate_left
              · show Act.put _ (some 10) _ = _
                simp only [Act.put, List.setIfInBounds_toArray, List.set_cons_zero, List.set_cons_succ, i64_w, i32_w]
                rfl
              refine two_ (i := 6) (j := 9) (Ni := none) (Nj := none) #[true, true, true, true, true, true, true, false, true, false, false, false] #[true, true, true, true, true, true, false, false, true, true, false, false] rfl rfl rfl rfl (two_of HT_.out (by kernel_rfl)) (by decide) (by decide) (fun K hK => ?_) (fun K hK => ?_)
              · obtain ⟨W4, hrun, hadd, hgr⟩ := FM.out.2.add HU.out.1 HU.out.2
                refine skip_ (w1 := W4) (by rfl) rfl ?_ ?_
                · first | (go_simp; done) | (go_simp; rfl)
                have FPn := Aside0.mk (show w.heap.size ≤ p ∧ W4.heap[p]? = some (.cells #[.int .i64 0, .slice none 0 0, .map none] 61 (0, 0)) from ⟨FP.out.1, (hgr.block p (Array.getElem?_eq_some_iff.1 FP.out.2).1 (fun e => (FM.out.2.ne FP.out.2) (Option.some.inj e).symm)).trans FP.out.2⟩); clear FP; have FP := FPn; clear FPn
                have BWn := Aside0.mk (show Below w.heap.size w W4 from BW.out.trans ⟨hgr.os, hgr.tape, hgr.output, hgr.size, fun i hi => hgr.block i (Nat.lt_of_lt_of_le hi BW.out.size) (fun e => by have h1 := Option.some.inj e; have h2 := FM.out.1; omega)⟩); clear BW; have BW := BWn; clear BWn
                have FMn := Aside0.mk (show w.heap.size ≤ g ∧ impl_MostInformed.Holds W4 g (fun x => False ∨ x = SH) from ⟨FM.out.1, hadd⟩); clear FM; have FM := FMn; clear FMn
                clear hrun hadd hgr
                refine hK.out _ _ trivial (fun _ => ?_)
                clear hK K
                refine pure_ (i := 7) (N := some 39) (v := ?_) (a' := ?_) #[true, true, true, true, true, true, true, true, true, false, false, false] rfl rfl (any_of HT_.out (by kernel_rfl)) (fun _ _ _ h => h) (Or.inl ⟨by rfl, ?_⟩) ?_ ?_
                rotate_left
                · intro w'
                  go_simp
                  with_reducible rfl
                rotate_left
                · simp only [Act.put, List.setIfInBounds_toArray, List.set_cons_zero, List.set_cons_succ, i64_w, i32_w]
                  rfl
                refine one_ (i := 9) (N := none) #[true, true, true, true, true, true, true, true, true, true, false, false] rfl rfl (one_of HT_.out (by kernel_rfl)) (by decide) (fun K hK => ?_)
                have q0 := FP.out.2
                have q1 := blk_set q0 0 (.int .i64 a0)
                have q2 := blk_set q1 1 (.slice A1 l1.length c1)
                have q3 := blk_set q2 2 (.map (some b))
                refine skip_ (w1 := (((W4.setCell ⟨p, 0, none⟩ (.int .i64 a0)).setCell ⟨p, 1, none⟩ (.slice A1 l1.length c1)).setCell ⟨p, 2, none⟩ (.map (some b)))) (by rfl) rfl ?_ ?_
                · have x0 := (blk_cell q0 0).trans rfl
                  have x1 := (blk_cell q1 1).trans rfl
                  have x2 := (blk_cell q2 2).trans rfl
                  have y0 := blk_frozen q0 0
                  have y1 := blk_frozen q1 1
                  have y2 := blk_frozen q2 2
                  go_simp
                have BWn := Aside0.mk (show Below w.heap.size w (((W4.setCell ⟨p, 0, none⟩ (.int .i64 a0)).setCell ⟨p, 1, none⟩ (.slice A1 l1.length c1)).setCell ⟨p, 2, none⟩ (.map (some b))) from ((BW.out.setCell (p := ⟨p, 0, none⟩) FP.out.1 _).setCell (p := ⟨p, 1, none⟩) FP.out.1 _).setCell (p := ⟨p, 2, none⟩) FP.out.1 _); clear BW; have BW := BWn; clear BWn
                have hgp := FM.out.2.ne q0
                have FMn := Aside0.mk (show w.heap.size ≤ g ∧ impl_MostInformed.Holds (((W4.setCell ⟨p, 0, none⟩ (.int .i64 a0)).setCell ⟨p, 1, none⟩ (.slice A1 l1.length c1)).setCell ⟨p, 2, none⟩ (.map (some b))) g (fun x => False ∨ x = SH) from ⟨FM.out.1, ((FM.out.2.set hgp _).set hgp _).set hgp _⟩); clear FM; have FM := FMn; clear FMn
                clear hgp
                obtain ⟨W5, hW5⟩ : ∃ z, z = (((W4.setCell ⟨p, 0, none⟩ (.int .i64 a0)).setCell ⟨p, 1, none⟩ (.slice A1 l1.length c1)).setCell ⟨p, 2, none⟩ (.map (some b))) := ⟨_, rfl⟩
                rw [← hW5] at BW FM q3 ⊢
                have FPn := Aside0.mk (show w.heap.size ≤ p ∧ W5.heap[p]? = some (.cells #[.int .i64 a0, .slice A1 l1.length c1, .map (some b)] 61 (0, 0)) from ⟨FP.out.1, q3⟩); clear FP; have FP := FPn; clear FPn
                clear q0 q1 q2 q3 hW5
                refine hK.out _ _ trivial (fun _ => ?_)
                clear hK K
                exact hjoin ⟨b, g, p⟩ _ ⟨BW, FM, FP⟩
              · have q0 := FP.out.2
                have q1 := blk_set q0 0 (.int .i64 a0)
                have q2 := blk_set q1 1 (.slice A1 l1.length c1)
                have q3 := blk_set q2 2 (.map (some b))
                refine skip_ (w1 := (((W3.setCell ⟨p, 0, none⟩ (.int .i64 a0)).setCell ⟨p, 1, none⟩ (.slice A1 l1.length c1)).setCell ⟨p, 2, none⟩ (.map (some b)))) (by rfl) rfl ?_ ?_
                · have x0 := (blk_cell q0 0).trans rfl
                  have x1 := (blk_cell q1 1).trans rfl
                  have x2 := (blk_cell q2 2).trans rfl
                  have y0 := blk_frozen q0 0
                  have y1 := blk_frozen q1 1
                  have y2 := blk_frozen q2 2
                  go_simp
                have BWn := Aside0.mk (show Below w.heap.size w (((W3.setCell ⟨p, 0, none⟩ (.int .i64 a0)).setCell ⟨p, 1, none⟩ (.slice A1 l1.length c1)).setCell ⟨p, 2, none⟩ (.map (some b))) from ((BW.out.setCell (p := ⟨p, 0, none⟩) FP.out.1 _).setCell (p := ⟨p, 1, none⟩) FP.out.1 _).setCell (p := ⟨p, 2, none⟩) FP.out.1 _); clear BW; have BW := BWn; clear BWn
                have hgp := FM.out.2.ne q0
                have FMn := Aside0.mk (show w.heap.size ≤ g ∧ impl_MostInformed.Holds (((W3.setCell ⟨p, 0, none⟩ (.int .i64 a0)).setCell ⟨p, 1, none⟩ (.slice A1 l1.length c1)).setCell ⟨p, 2, none⟩ (.map (some b))) g (fun x => False) from ⟨FM.out.1, ((FM.out.2.set hgp _).set hgp _).set hgp _⟩); clear FM; have FM := FMn; clear FMn
                clear hgp
                obtain ⟨W4, hW4⟩ : ∃ z, z = (((W3.setCell ⟨p, 0, none⟩ (.int .i64 a0)).setCell ⟨p, 1, none⟩ (.slice A1 l1.length c1)).setCell ⟨p, 2, none⟩ (.map (some b))) := ⟨_, rfl⟩
                rw [← hW4] at BW FM q3 ⊢
                have FPn := Aside0.mk (show w.heap.size ≤ p ∧ W4.heap[p]? = some (.cells #[.int .i64 a0, .slice A1 l1.length c1, .map (some b)] 61 (0, 0)) from ⟨FP.out.1, q3⟩); clear FP; have FP := FPn; clear FPn
                clear q0 q1 q2 q3 hW4
                refine hK.out _ _ trivial (fun _ => ?_)
                clear hK K
                refine one_ (i := 6) (N := none) #[true, true, true, true, true, true, true, false, true, true, false, false] rfl rfl (one_of HT_.out (by kernel_rfl)) (by decide) (fun K hK => ?_)
                obtain ⟨W5, hrun, hadd, hgr⟩ := FM.out.2.add HU.out.1 HU.out.2
                refine skip_ (w1 := W5) (by rfl) rfl ?_ ?_
                · first | (go_simp; done) | (go_simp; rfl)
                have FPn := Aside0.mk (show w.heap.size ≤ p ∧ W5.heap[p]? = some (.cells #[.int .i64 a0, .slice A1 l1.length c1, .map (some b)] 61 (0, 0)) from ⟨FP.out.1, (hgr.block p (Array.getElem?_eq_some_iff.1 FP.out.2).1 (fun e => (FM.out.2.ne FP.out.2) (Option.some.inj e).symm)).trans FP.out.2⟩); clear FP; have FP := FPn; clear FPn
                have BWn := Aside0.mk (show Below w.heap.size w W5 from BW.out.trans ⟨hgr.os, hgr.tape, hgr.output, hgr.size, fun i hi => hgr.block i (Nat.lt_of_lt_of_le hi BW.out.size) (fun e => by have h1 := Option.some.inj e; have h2 := FM.out.1; omega)⟩); clear BW; have BW := BWn; clear BWn
                have FMn := Aside0.mk (show w.heap.size ≤ g ∧ impl_MostInformed.Holds W5 g (fun x => False ∨ x = SH) from ⟨FM.out.1, hadd⟩); clear FM; have FM := FMn; clear FMn
                clear hrun hadd hgr
                refine hK.out _ _ trivial (fun _ => ?_)
                clear hK K
                refine pure_ (i := 7) (N := some 39) (v := ?_) (a' := ?_) #[true, true, true, true, true, true, true, true, true, true, false, false] rfl rfl (any_of HT_.out (by kernel_rfl)) (fun _ _ _ h => h) (Or.inl ⟨by rfl, ?_⟩) ?_ ?_
                rotate_left
                · intro w'
                  go_simp
                  with_reducible rfl
                rotate_left
                · simp only [Act.put, List.setIfInBounds_toArray, List.set_cons_zero, List.set_cons_succ, i64_w, i32_w]
                  rfl
                exact hjoin ⟨b, g, p⟩ _ ⟨BW, FM, FP⟩
          · refine value_ (v := (.pointer (some ⟨W1.heap.size, 0, none⟩))) (w1 := W1.alloc (.cells #[.int .i64 0, .slice none 0 0, .map none] 61)) (by rfl) rfl ?_ ?_
            · first | (go_simp; done) | (go_simp; rfl)
            obtain ⟨p, hp⟩ : ∃ p, p = W1.heap.size := ⟨_, rfl⟩
            have hnew := heap_alloc_new W1 (.cells #[.int .i64 0, .slice none 0 0, .map none] 61)
            have hbl := below_alloc (Below.refl W1.heap.size W1) (.cells #[.int .i64 0, .slice none 0 0, .map none] 61)
            obtain ⟨W2, hW2⟩ : ∃ z, z = W1.alloc (.cells #[.int .i64 0, .slice none 0 0, .map none] 61) := ⟨_, rfl⟩
            rw [← hW2] at hnew hbl
            have FP := Aside0.mk (show w.heap.size ≤ p ∧ W2.heap[p]? = some (.cells #[.int .i64 0, .slice none 0 0, .map none] 61 (0, 0)) from ⟨by rw [hp]; exact BW.out.size, by rw [hp]; exact hnew⟩)
            have BWn := Aside0.mk (show Below w.heap.size w W2 from below_step BW.out hbl); clear BW; have BW := BWn; clear BWn
            rw [← hp, ← hW2]
            clear hp hW2 hnew hbl
            refine hK.out _ _ trivial (fun _ => ?_)
            clear hK K
            refine norm_ (a' := ?_) ?_ ?_
            rotate_left
            · show Act.put _ (some 10) _ = _
              simp only [Act.put, List.setIfInBounds_toArray, List.set_cons_zero, List.set_cons_succ, i64_w, i32_w]
              rfl
            refine two_ (i := 3) (j := 9) (Ni := some 36) (Nj := none) #[true, true, true, true, true, true, false, false, true, false, false, false] #[true, true, true, false, true, true, false, false, true, true, false, false] rfl rfl rfl rfl (two_of HT_.out (by kernel_rfl)) (by decide) (by decide) (fun K hK => ?_) (fun K hK => ?_)
            · refine value_ (v := (.map (some W2.heap.size))) (w1 := W2.alloc (.map #[] 0)) (by rfl) rfl ?_ ?_
              · have hmm := @run_makeMap Try.prog
                first | (go_simp; done) | (go_simp; rfl)
              obtain ⟨g, hg⟩ : ∃ g, g = W2.heap.size := ⟨_, rfl⟩
              have hnew := heap_alloc_new W2 (.map #[] 0)
              have hbl := below_alloc (Below.refl W2.heap.size W2) (.map #[] 0)
              obtain ⟨W3, hW3⟩ : ∃ z, z = W2.alloc (.map #[] 0) := ⟨_, rfl⟩
              rw [← hW3] at hnew hbl
              have FPn := Aside0.mk (show w.heap.size ≤ p ∧ W3.heap[p]? = some (.cells #[.int .i64 0, .slice none 0 0, .map none] 61 (0, 0)) from ⟨FP.out.1, (hbl.block p (Array.getElem?_eq_some_iff.1 FP.out.2).1).trans FP.out.2⟩); clear FP; have FP := FPn; clear FPn
              have FM := Aside0.mk (show w.heap.size ≤ g ∧ impl_MostInformed.Holds W3 g (fun x => False) from ⟨by rw [hg]; exact BW.out.size, by rw [hg]; exact impl_MostInformed.Holds.made hnew⟩)
              have BWn := Aside0.mk (show Below w.heap.size w W3 from below_step BW.out hbl); clear BW; have BW := BWn; clear BWn
              rw [← hg, ← hW3]
              clear hg hW3 hnew hbl
              refine hK.out _ _ trivial (fun _ => ?_)
              clear hK K
              refine norm_ (a' := ?_) ?_ ?_
              rotate_left
              · show Act.put _ (some 36) _ = _
                simp only [Act.put, List.setIfInBounds_toArray, List.set_cons_zero, List.set_cons_succ, i64_w, i32_w]
                rfl
              refine two_ (i := 6) (j := 9) (Ni := none) (Nj := none) #[true, true, true, true, true, true, true, false, true, false, false, false] #[true, true, true, true, true, true, false, false, true, true, false, false] rfl rfl rfl rfl (two_of HT_.out (by kernel_rfl)) (by decide) (by decide) (fun K hK => ?_) (fun K hK => ?_)
              · obtain ⟨W4, hrun, hadd, hgr⟩ := FM.out.2.add HU.out.1 HU.out.2
                refine skip_ (w1 := W4) (by rfl) rfl ?_ ?_
                · first | (go_simp; done) | (go_simp; rfl)
                have FPn := Aside0.mk (show w.heap.size ≤ p ∧ W4.heap[p]? = some (.cells #[.int .i64 0, .slice none 0 0, .map none] 61 (0, 0)) from ⟨FP.out.1, (hgr.block p (Array.getElem?_eq_some_iff.1 FP.out.2).1 (fun e => (FM.out.2.ne FP.out.2) (Option.some.inj e).symm)).trans FP.out.2⟩); clear FP; have FP := FPn; clear FPn
                have BWn := Aside0.mk (show Below w.heap.size w W4 from BW.out.trans ⟨hgr.os, hgr.tape, hgr.output, hgr.size, fun i hi => hgr.block i (Nat.lt_of_lt_of_le hi BW.out.size) (fun e => by have h1 := Option.some.inj e; have h2 := FM.out.1; omega)⟩); clear BW; have BW := BWn; clear BWn
                have FMn := Aside0.mk (show w.heap.size ≤ g ∧ impl_MostInformed.Holds W4 g (fun x => False ∨ x = SH) from ⟨FM.out.1, hadd⟩); clear FM; have FM := FMn; clear FMn
                clear hrun hadd hgr
                refine hK.out _ _ trivial (fun _ => ?_)
                clear hK K
                refine pure_ (i := 7) (N := some 39) (v := ?_) (a' := ?_) #[true, true, true, true, true, true, true, true, true, false, false, false] rfl rfl (any_of HT_.out (by kernel_rfl)) (fun _ _ _ h => h) (Or.inl ⟨by rfl, ?_⟩) ?_ ?_
                rotate_left
                · intro w'
                  go_simp
                  with_reducible rfl
                rotate_left
                · simp only [Act.put, List.setIfInBounds_toArray, List.set_cons_zero, List.set_cons_succ, i64_w, i32_w]
                  rfl
                refine one_ (i := 9) (N := none) #[true, true, true, true, true, true, true, true, true, true, false, false] rfl rfl (one_of HT_.out (by kernel_rfl)) (by decide) (fun K hK => ?_)
                have q0 := FP.out.2
                have q1 := blk_set q0 0 (.int .i64 a0)
                have q2 := blk_set q1 1 (.slice A1 l1.length c1)
                have q3 := blk_set q2 2 (.map (some b))
                refine skip_ (w1 := (((W4.setCell ⟨p, 0, none⟩ (.int .i64 a0)).setCell ⟨p, 1, none⟩ (.slice A1 l1.length c1)).setCell ⟨p, 2, none⟩ (.map (some b)))) (by rfl) rfl ?_ ?_
                · have x0 := (blk_cell q0 0).trans rfl
                  have x1 := (blk_cell q1 1).trans rfl
                  have x2 := (blk_cell q2 2).trans rfl
                  have y0 := blk_frozen q0 0
                  have y1 := blk_frozen q1 1
                  have y2 := blk_frozen q2 2
                  go_simp
                have BWn := Aside0.mk (show Below w.heap.size w (((W4.setCell ⟨p, 0, none⟩ (.int .i64 a0)).setCell ⟨p, 1, none⟩ (.slice A1 l1.length c1)).setCell ⟨p, 2, none⟩ (.map (some b))) from ((BW.out.setCell (p := ⟨p, 0, none⟩) FP.out.1 _).setCell (p := ⟨p, 1, none⟩) FP.out.1 _).setCell (p := ⟨p, 2, none⟩) FP.out.1 _); clear BW; have BW := BWn; clear BWn
                have hgp := FM.out.2.ne q0
                have FMn := Aside0.mk (show w.heap.size ≤ g ∧ impl_MostInformed.Holds (((W4.setCell ⟨p, 0, none⟩ (.int .i64 a0)).setCell ⟨p, 1, none⟩ (.slice A1 l1.length c1)).setCell ⟨p, 2, none⟩ (.map (some b))) g (fun x => False ∨ x = SH) from ⟨FM.out.1, ((FM.out.2.set hgp _).set hgp _).set hgp _⟩); clear FM; have FM := FMn; clear FMn
                clear hgp
                obtain ⟨W5, hW5⟩ : ∃ z, z = (((W4.setCell ⟨p, 0, none⟩ (.int .i64 a0)).setCell ⟨p, 1, none⟩ (.slice A1 l1.length c1)).setCell ⟨p, 2, none⟩ (.map (some b))) := ⟨_, rfl⟩
                rw [← hW5] at BW FM q3 ⊢
                have FPn := Aside0.mk (show w.heap.size ≤ p ∧ W5.heap[p]? = some (.cells #[.int .i64 a0, .slice A1 l1.length c1, .map (some b)] 61 (0, 0)) from ⟨FP.out.1, q3⟩); clear FP; have FP := FPn; clear FPn
                clear q0 q1 q2 q3 hW5
                refine hK.out _ _ trivial (fun _ => ?_)
                clear hK K
                exact hjoin ⟨b, g, p⟩ _ ⟨BW, FM, FP⟩
              · have q0 := FP.out.2
                have q1 := blk_set q0 0 (.int .i64 a0)
                have q2 := blk_set q1 1 (.slice A1 l1.length c1)
                have q3 := blk_set q2 2 (.map (some b))
                refine skip_ (w1 := (((W3.setCell ⟨p, 0, none⟩ (.int .i64 a0)).setCell ⟨p, 1, none⟩ (.slice A1 l1.length c1)).setCell ⟨p, 2, none⟩ (.map (some b)))) (by rfl) rfl ?_ ?_
                · have x0 := (blk_cell q0 0).trans rfl
                  have x1 := (blk_cell q1 1).trans rfl
                  have x2 := (blk_cell q2 2).trans rfl
                  have y0 := blk_frozen q0 0
                  have y1 := blk_frozen q1 1
                  have y2 := blk_frozen q2 2
                  go_simp
                have BWn := Aside0.mk (show Below w.heap.size w (((W3.setCell ⟨p, 0, none⟩ (.int .i64 a0)).setCell ⟨p, 1, none⟩ (.slice A1 l1.length c1)).setCell ⟨p, 2, none⟩ (.map (some b))) from ((BW.out.setCell (p := ⟨p, 0, none⟩) FP.out.1 _).setCell (p := ⟨p, 1, none⟩) FP.out.1 _).setCell (p := ⟨p, 2, none⟩) FP.out.1 _); clear BW; have BW := BWn; clear BWn
                have hgp := FM.out.2.ne q0
                have FMn := Aside0.mk (show w.heap.size ≤ g ∧ impl_MostInformed.Holds (((W3.setCell ⟨p, 0, none⟩ (.int .i64 a0)).setCell ⟨p, 1, none⟩ (.slice A1 l1.length c1)).setCell ⟨p, 2, none⟩ (.map (some b))) g (fun x => False) from ⟨FM.out.1, ((FM.out.2.set hgp _).set hgp _).set hgp _⟩); clear FM; have FM := FMn; clear FMn
                clear hgp
                obtain ⟨W4, hW4⟩ : ∃ z, z = (((W3.setCell ⟨p, 0, none⟩ (.int .i64 a0)).setCell ⟨p, 1, none⟩ (.slice A1 l1.length c1)).setCell ⟨p, 2, none⟩ (.map (some b))) := ⟨_, rfl⟩
                rw [← hW4] at BW FM q3 ⊢
                have FPn := Aside0.mk (show w.heap.size ≤ p ∧ W4.heap[p]? = some (.cells #[.int .i64 a0, .slice A1 l1.length c1, .map (some b)] 61 (0, 0)) from ⟨FP.out.1, q3⟩); clear FP; have FP := FPn; clear FPn
                clear q0 q1 q2 q3 hW4
                refine hK.out _ _ trivial (fun _ => ?_)
                clear hK K
                refine one_ (i := 6) (N := none) #[true, true, true, true, true, true, true, false, true, true, false, false] rfl rfl (one_of HT_.out (by kernel_rfl)) (by decide) (fun K hK => ?_)
                obtain ⟨W5, hrun, hadd, hgr⟩ := FM.out.2.add HU.out.1 HU.out.2
                refine skip_ (w1 := W5) (by rfl) rfl ?_ ?_
                · first | (go_simp; done) | (go_simp; rfl)
                have FPn := Aside0.mk (show w.heap.size ≤ p ∧ W5.heap[p]? = some (.cells #[.int .i64 a0, .slice A1 l1.length c1, .map (some b)] 61 (0, 0)) from ⟨FP.out.1, (hgr.block p (Array.getElem?_eq_some_iff.1 FP.out.2).1 (fun e => (FM.out.2.ne FP.out.2) (Option.some.inj e).symm)).trans FP.out.2⟩); clear FP; have FP := FPn; clear FPn
                have BWn := Aside0.mk (show Below w.heap.size w W5 from BW.out.trans ⟨hgr.os, hgr.tape, hgr.output, hgr.size, fun i hi => hgr.block i (Nat.lt_of_lt_of_le hi BW.out.size) (fun e => by have h1 := Option.some.inj e; have h2 := FM.out.1; omega)⟩); clear BW; have BW := BWn; clear BWn
                have FMn := Aside0.mk (show w.heap.size ≤ g ∧ impl_MostInformed.Holds W5 g (fun x => False ∨ x = SH) from ⟨FM.out.1, hadd⟩); clear FM; have FM := FMn; clear FMn
                clear hrun hadd hgr
                refine hK.out _ _ trivial (fun _ => ?_)
                clear hK K
                refine pure_ (i := 7) (N := some 39) (v := ?_) (a' := ?_) #[true, true, true, true, true, true, true, true, true, true, false, false] rfl rfl (any_of HT_.out (by kernel_rfl)) (fun _ _ _ h => h) (Or.inl ⟨by rfl, ?_⟩) ?_ ?_
                rotate_left
                · intro w'
                  go_simp
                  with_reducible rfl
                rotate_left
                · simp only [Act.put, List.setIfInBounds_toArray, List.set_cons_zero, List.set_cons_succ, i64_w, i32_w]
                  rfl
                exact hjoin ⟨b, g, p⟩ _ ⟨BW, FM, FP⟩
            · have q0 := FP.out.2
              have q1 := blk_set q0 0 (.int .i64 a0)
              have q2 := blk_set q1 1 (.slice A1 l1.length c1)
              have q3 := blk_set q2 2 (.map (some b))
              refine skip_ (w1 := (((W2.setCell ⟨p, 0, none⟩ (.int .i64 a0)).setCell ⟨p, 1, none⟩ (.slice A1 l1.length c1)).setCell ⟨p, 2, none⟩ (.map (some b)))) (by rfl) rfl ?_ ?_
              · have x0 := (blk_cell q0 0).trans rfl
                have x1 := (blk_cell q1 1).trans rfl
                have x2 := (blk_cell q2 2).trans rfl
                have y0 := blk_frozen q0 0
                have y1 := blk_frozen q1 1
                have y2 := blk_frozen q2 2
                go_simp
              have BWn := Aside0.mk (show Below w.heap.size w (((W2.setCell ⟨p, 0, none⟩ (.int .i64 a0)).setCell ⟨p, 1, none⟩ (.slice A1 l1.length c1)).setCell ⟨p, 2, none⟩ (.map (some b))) from ((BW.out.setCell (p := ⟨p, 0, none⟩) FP.out.1 _).setCell (p := ⟨p, 1, none⟩) FP.out.1 _).setCell (p := ⟨p, 2, none⟩) FP.out.1 _); clear BW; have BW := BWn; clear BWn
              obtain ⟨W3, hW3⟩ : ∃ z, z = (((W2.setCell ⟨p, 0, none⟩ (.int .i64 a0)).setCell ⟨p, 1, none⟩ (.slice A1 l1.length c1)).setCell ⟨p, 2, none⟩ (.map (some b))) := ⟨_, rfl⟩
              rw [← hW3] at BW  q3 ⊢
              have FPn := Aside0.mk (show w.heap.size ≤ p ∧ W3.heap[p]? = some (.cells #[.int .i64 a0, .slice A1 l1.length c1, .map (some b)] 61 (0, 0)) from ⟨FP.out.1, q3⟩); clear FP; have FP := FPn; clear FPn
              clear q0 q1 q2 q3 hW3
              refine hK.out _ _ trivial (fun _ => ?_)
              clear hK K
              refine one_ (i := 3) (N := some 36) #[true, true, true, true, true, true, false, false, true, true, false, false] rfl rfl (one_of HT_.out (by kernel_rfl)) (by decide) (fun K hK => ?_)
              refine value_ (v := (.map (some W3.heap.size))) (w1 := W3.alloc (.map #[] 0)) (by rfl) rfl ?_ ?_
              · have hmm := @run_makeMap Try.prog
                first | (go_simp; done) | (go_simp; rfl)
              obtain ⟨g, hg⟩ : ∃ g, g = W3.heap.size := ⟨_, rfl⟩
              have hnew := heap_alloc_new W3 (.map #[] 0)
              have hbl := below_alloc (Below.refl W3.heap.size W3) (.map #[] 0)
              obtain ⟨W4, hW4⟩ : ∃ z, z = W3.alloc (.map #[] 0) := ⟨_, rfl⟩
              rw [← hW4] at hnew hbl
              have FPn := Aside0.mk (show w.heap.size ≤ p ∧ W4.heap[p]? = some (.cells #[.int .i64 a0, .slice A1 l1.length c1, .map (some b)] 61 (0, 0)) from ⟨FP.out.1, (hbl.block p (Array.getElem?_eq_some_iff.1 FP.out.2).1).trans FP.out.2⟩); clear FP; have FP := FPn; clear FPn
              have FM := Aside0.mk (show w.heap.size ≤ g ∧ impl_MostInformed.Holds W4 g (fun x => False) from ⟨by rw [hg]; exact BW.out.size, by rw [hg]; exact impl_MostInformed.Holds.made hnew⟩)
              have BWn := Aside0.mk (show Below w.heap.size w W4 from below_step BW.out hbl); clear BW; have BW := BWn; clear BWn
              rw [← hg, ← hW4]
              clear hg hW4 hnew hbl
              refine hK.out _ _ trivial (fun _ => ?_)
              clear hK K
              refine norm_ (a' := ?_) ?_ ?_
              rotate_left
              · show Act.put _ (some 36) _ = _
                simp only [Act.put, List.setIfInBounds_toArray, List.set_cons_zero, List.set_cons_succ, i64_w, i32_w]
                rfl
              refine one_ (i := 6) (N := none) #[true, true, true, true, true, true, true, false, true, true, false, false] rfl rfl (one_of HT_.out (by kernel_rfl)) (by decide) (fun K hK => ?_)
              obtain ⟨W5, hrun, hadd, hgr⟩ := FM.out.2.add HU.out.1 HU.out.2
              refine skip_ (w1 := W5) (by rfl) rfl ?_ ?_
              · first | (go_simp; done) | (go_simp; rfl)
              have FPn := Aside0.mk (show w.heap.size ≤ p ∧ W5.heap[p]? = some (.cells #[.int .i64 a0, .slice A1 l1.length c1, .map (some b)] 61 (0, 0)) from ⟨FP.out.1, (hgr.block p (Array.getElem?_eq_some_iff.1 FP.out.2).1 (fun e => (FM.out.2.ne FP.out.2) (Option.some.inj e).symm)).trans FP.out.2⟩); clear FP; have FP := FPn; clear FPn
              have BWn := Aside0.mk (show Below w.heap.size w W5 from BW.out.trans ⟨hgr.os, hgr.tape, hgr.output, hgr.size, fun i hi => hgr.block i (Nat.lt_of_lt_of_le hi BW.out.size) (fun e => by have h1 := Option.some.inj e; have h2 := FM.out.1; omega)⟩); clear BW; have BW := BWn; clear BWn
              have FMn := Aside0.mk (show w.heap.size ≤ g ∧ impl_MostInformed.Holds W5 g (fun x => False ∨ x = SH) from ⟨FM.out.1, hadd⟩); clear FM; have FM := FMn; clear FMn
              clear hrun hadd hgr
              refine hK.out _ _ trivial (fun _ => ?_)
              clear hK K
              refine pure_ (i := 7) (N := some 39) (v := ?_) (a' := ?_) #[true, true, true, true, true, true, true, true, true, true, false, false] rfl rfl (any_of HT_.out (by kernel_rfl)) (fun _ _ _ h => h) (Or.inl ⟨by rfl, ?_⟩) ?_ ?_
              rotate_left
              · intro w'
                go_simp
                with_reducible rfl
              rotate_left
              · simp only [Act.put, List.setIfInBounds_toArray, List.set_cons_zero, List.set_cons_succ, i64_w, i32_w]
                rfl
              exact hjoin ⟨b, g, p⟩ _ ⟨BW, FM, FP⟩
        · refine value_ (v := (.map (some W0.heap.size))) (w1 := W0.alloc (.map #[] 0)) (by rfl) rfl ?_ ?_
          · have hmm := @run_makeMap Try.prog
            first | (go_simp; done) | (go_simp; rfl)
          obtain ⟨g, hg⟩ : ∃ g, g = W0.heap.size := ⟨_, rfl⟩
          have hnew := heap_alloc_new W0 (.map #[] 0)
          have hbl := below_alloc (Below.refl W0.heap.size W0) (.map #[] 0)
          obtain ⟨W1, hW1⟩ : ∃ z, z = W0.alloc (.map #[] 0) := ⟨_, rfl⟩
          rw [← hW1] at hnew hbl
          have FM := Aside0.mk (show w.heap.size ≤ g ∧ impl_MostInformed.Holds W1 g (fun x => False) from ⟨by rw [hg]; exact BW.out.size, by rw [hg]; exact impl_MostInformed.Holds.made hnew⟩)
          have BWn := Aside0.mk (show Below w.heap.size w W1 from below_step BW.out hbl); clear BW; have BW := BWn; clear BWn
          rw [← hg, ← hW1]
          clear hg hW1 hnew hbl
          refine hK.out _ _ trivial (fun _ => ?_)
          clear hK K
          refine norm_ (a' := ?_) ?_ ?_
          rotate_left
          · show Act.put _ (some 36) _ = _
            simp only [Act.put, List.setIfInBounds_toArray, List.set_cons_zero, List.set_cons_succ, i64_w, i32_w]
            rfl
          refine three_ (i := 2) (j := 6) (k := 8) (Ni := some 35) (Nj := none) (Nk := some 10) #[true, true, true, true, true, true, false, false, false, false, false, false] #[true, true, false, true, true, true, true, false, false, false, false, false] #[true, true, false, true, true, true, false, false, true, false, false, false] rfl rfl rfl rfl rfl rfl (three_of HT_.out (by kernel_rfl)) (by decide) (by decide) (by decide) (fun K hK => ?_) (fun K hK => ?_) (fun K hK => ?_)
          · refine goes_ Try.func36 (by kernel_rfl) rfl #[.int .i64 a0, .slice A1 l1.length c1] (by rfl) rfl rfl (by (try simp only [List.map_toArray, List.map_cons, List.map_nil]); rfl) ?_
            refine (impl_spreadOf.calls a0 A1 l1.length c1 W1).mono ?_
            rintro e W2 ⟨b, rfl, hbs, hbm, hb3⟩
            refine ⟨_, rfl, ?_⟩
            have FMn := Aside0.mk (show w.heap.size ≤ g ∧ impl_MostInformed.Holds W2 g (fun x => False) from ⟨FM.out.1, FM.out.2.below hb3⟩); clear FM; have FM := FMn; clear FMn
            have BWn := Aside0.mk (show Below w.heap.size w W2 from below_step BW.out hb3); clear BW; have BW := BWn; clear BWn
            clear hbs hbm hb3
            refine hK.out _ _ trivial (fun _ => ?_)
            clear hK K
            refine norm_ (a' := ?_) ?_ ?_
            rotate_left
            · show Act.put _ (some 35) _ = _
              simp only [Act.put, List.setIfInBounds_toArray, List.set_cons_zero, List.set_cons_succ, i64_w, i32_w]
              rfl
            refine two_ (i := 6) (j := 8) (Ni := none) (Nj := some 10) #[true, true, true, true, true, true, true, false, false, false, false, false] #[true, true, true, true, true, true, false, false, true, false, false, false] rfl rfl rfl rfl (two_of HT_.out (by kernel_rfl)) (by decide) (by decide) (fun K hK => ?_) (fun K hK => ?_)
            · obtain ⟨W3, hrun, hadd, hgr⟩ := FM.out.2.add HU.out.1 HU.out.2
              refine skip_ (w1 := W3) (by rfl) rfl ?_ ?_
              · first | (go_simp; done) | (go_simp; rfl)
              have BWn := Aside0.mk (show Below w.heap.size w W3 from BW.out.trans ⟨hgr.os, hgr.tape, hgr.output, hgr.size, fun i hi => hgr.block i (Nat.lt_of_lt_of_le hi BW.out.size) (fun e => by have h1 := Option.some.inj e; have h2 := FM.out.1; omega)⟩); clear BW; have BW := BWn; clear BWn
              have FMn := Aside0.mk (show w.heap.size ≤ g ∧ impl_MostInformed.Holds W3 g (fun x => False ∨ x = SH) from ⟨FM.out.1, hadd⟩); clear FM; have FM := FMn; clear FMn
              clear hrun hadd hgr
              refine hK.out _ _ trivial (fun _ => ?_)
              clear hK K
              refine pure_ (i := 7) (N := some 39) (v := ?_) (a' := ?_) #[true, true, true, true, true, true, true, true, false, false, false, false] rfl rfl (any_of HT_.out (by kernel_rfl)) (fun _ _ _ h => h) (Or.inl ⟨by rfl, ?_⟩) ?_ ?_
              rotate_left
              · intro w'
                go_simp
                with_reducible rfl
              rotate_left
              · simp only [Act.put, List.setIfInBounds_toArray, List.set_cons_zero, List.set_cons_succ, i64_w, i32_w]
                rfl
              refine one_ (i := 8) (N := some 10) #[true, true, true, true, true, true, true, true, true, false, false, false] rfl rfl (one_of HT_.out (by kernel_rfl)) (by decide) (fun K hK => ?_)
              refine value_ (v := (.pointer (some ⟨W3.heap.size, 0, none⟩))) (w1 := W3.alloc (.cells #[.int .i64 0, .slice none 0 0, .map none] 61)) (by rfl) rfl ?_ ?_
              · first | (go_simp; done) | (go_simp; rfl)
              obtain ⟨p, hp⟩ : ∃ p, p = W3.heap.size := ⟨_, rfl⟩
              have hnew := heap_alloc_new W3 (.cells #[.int .i64 0, .slice none 0 0, .map none] 61)
              have hbl := below_alloc (Below.refl W3.heap.size W3) (.cells #[.int .i64 0, .slice none 0 0, .map none] 61)
              obtain ⟨W4, hW4⟩ : ∃ z, z = W3.alloc (.cells #[.int .i64 0, .slice none 0 0, .map none] 61) := ⟨_, rfl⟩
              rw [← hW4] at hnew hbl
              have FMn := Aside0.mk (show w.heap.size ≤ g ∧ impl_MostInformed.Holds W4 g (fun x => False ∨ x = SH) from ⟨FM.out.1, FM.out.2.below hbl⟩); clear FM; have FM := FMn; clear FMn
              have FP := Aside0.mk (show w.heap.size ≤ p ∧ W4.heap[p]? = some (.cells #[.int .i64 0, .slice none 0 0, .map none] 61 (0, 0)) from ⟨by rw [hp]; exact BW.out.size, by rw [hp]; exact hnew⟩)
              have BWn := Aside0.mk (show Below w.heap.size w W4 from below_step BW.out hbl); clear BW; have BW := BWn; clear BWn
              rw [← hp, ← hW4]
              clear hp hW4 hnew hbl
              refine hK.out _ _ trivial (fun _ => ?_)
              clear hK K
              refine norm_ (a' := ?_) ?_ ?_
              rotate_left
              · show Act.put _ (some 10) _ = _
                simp only [Act.put, List.setIfInBounds_toArray, List.set_cons_zero, List.set_cons_succ, i64_w, i32_w]
                rfl
              refine one_ (i := 9) (N := none) #[true, true, true, true, true, true, true, true, true, true, false, false] rfl rfl (one_of HT_.out (by kernel_rfl)) (by decide) (fun K hK => ?_)
              have q0 := FP.out.2
              have q1 := blk_set q0 0 (.int .i64 a0)
              have q2 := blk_set q1 1 (.slice A1 l1.length c1)
              have q3 := blk_set q2 2 (.map (some b))
              refine skip_ (w1 := (((W4.setCell ⟨p, 0, none⟩ (.int .i64 a0)).setCell ⟨p, 1, none⟩ (.slice A1 l1.length c1)).setCell ⟨p, 2, none⟩ (.map (some b)))) (by rfl) rfl ?_ ?_
              · have x0 := (blk_cell q0 0).trans rfl
                have x1 := (blk_cell q1 1).trans rfl
                have x2 := (blk_cell q2 2).trans rfl
                have y0 := blk_frozen q0 0
                have y1 := blk_frozen q1 1
                have y2 := blk_frozen q2 2
                go_simp
              have BWn := Aside0.mk (show Below w.heap.size w (((W4.setCell ⟨p, 0, none⟩ (.int .i64 a0)).setCell ⟨p, 1, none⟩ (.slice A1 l1.length c1)).setCell ⟨p, 2, none⟩ (.map (some b))) from ((BW.out.setCell (p := ⟨p, 0, none⟩) FP.out.1 _).setCell (p := ⟨p, 1, none⟩) FP.out.1 _).setCell (p := ⟨p, 2, none⟩) FP.out.1 _); clear BW; have BW := BWn; clear BWn
              have hgp := FM.out.2.ne q0
              have FMn := Aside0.mk (show w.heap.size ≤ g ∧ impl_MostInformed.Holds (((W4.setCell ⟨p, 0, none⟩ (.int .i64 a0)).setCell ⟨p, 1, none⟩ (.slice A1 l1.length c1)).setCell ⟨p, 2, none⟩ (.map (some b))) g (fun x => False ∨ x = SH) from ⟨FM.out.1, ((FM.out.2.set hgp _).set hgp _).set hgp _⟩); clear FM; have FM := FMn; clear FMn
              clear hgp
              obtain ⟨W5, hW5⟩ : ∃ z, z = (((W4.setCell ⟨p, 0, none⟩ (.int .i64 a0)).setCell ⟨p, 1, none⟩ (.slice A1 l1.length c1)).setCell ⟨p, 2, none⟩ (.map (some b))) := ⟨_, rfl⟩
              rw [← hW5] at BW FM q3 ⊢
              have FPn := Aside0.mk (show w.heap.size ≤ p ∧ W5.heap[p]? = some (.cells #[.int .i64 a0, .slice A1 l1.length c1, .map (some b)] 61 (0, 0)) from ⟨FP.out.1, q3⟩); clear FP; have FP := FPn; clear FPn
              clear q0 q1 q2 q3 hW5
              refine hK.out _ _ trivial (fun _ => ?_)
              clear hK K
              exact hjoin ⟨b, g, p⟩ _ ⟨BW, FM, FP⟩
            · refine value_ (v := (.pointer (some ⟨W2.heap.size, 0, none⟩))) (w1 := W2.alloc (.cells #[.int .i64 0, .slice none 0 0, .map none] 61)) (by rfl) rfl ?_ ?_
              · first | (go_simp; done) | (go_simp; rfl)
              obtain ⟨p, hp⟩ : ∃ p, p = W2.heap.size := ⟨_, rfl⟩
              have hnew := heap_alloc_new W2 (.cells #[.int .i64 0, .slice none 0 0, .map none] 61)
              have hbl := below_alloc (Below.refl W2.heap.size W2) (.cells #[.int .i64 0, .slice none 0 0, .map none] 61)
              obtain ⟨W3, hW3⟩ : ∃ z, z = W2.alloc (.cells #[.int .i64 0, .slice none 0 0, .map none] 61) := ⟨_, rfl⟩
              rw [← hW3] at hnew hbl
              have FMn := Aside0.mk (show w.heap.size ≤ g ∧ impl_MostInformed.Holds W3 g (fun x => False) from ⟨FM.out.1, FM.out.2.below hbl⟩); clear FM; have FM := FMn; clear FMn
              have FP := Aside0.mk (show w.heap.size ≤ p ∧ W3.heap[p]? = some (.cells #[.int .i64 0, .slice none 0 0, .map none] 61 (0, 0)) from ⟨by rw [hp]; exact BW.out.size, by rw [hp]; exact hnew⟩)
              have BWn := Aside0.mk (show Below w.heap.size w W3 from below_step BW.out hbl); clear BW; have BW := BWn; clear BWn
              rw [← hp, ← hW3]
              clear hp hW3 hnew hbl
              refine hK.out _ _ trivial (fun _ => ?_)
              clear hK K
              refine norm_ (a' := ?_) ?_ ?_
              rotate_left
              · show Act.put _ (some 10) _ = _
                simp only [Act.put, List.setIfInBounds_toArray, List.set_cons_zero, List.set_cons_succ, i64_w, i32_w]
                rfl
              refine two_ (i := 6) (j := 9) (Ni := none) (Nj := none) #[true, true, true, true, true, true, true, false, true, false, false, false] #[true, true, true, true, true, true, false, false, true, true, false, false] rfl rfl rfl rfl (two_of HT_.out (by kernel_rfl)) (by decide) (by decide) (fun K hK => ?_) (fun K hK => ?_)
              · obtain ⟨W4, hrun, hadd, hgr⟩ := FM.out.2.add HU.out.1 HU.out.2
                refine skip_ (w1 := W4) (by rfl) rfl ?_ ?_
                · first | (go_simp; done) | (go_simp; rfl)
                have FPn := Aside0.mk (show w.heap.size ≤ p ∧ W4.heap[p]? = some (.cells #[.int .i64 0, .slice none 0 0, .map none] 61 (0, 0)) from ⟨FP.out.1, (hgr.block p (Array.getElem?_eq_some_iff.1 FP.out.2).1 (fun e => (FM.out.2.ne FP.out.2) (Option.some.inj e).symm)).trans FP.out.2⟩); clear FP; have FP := FPn; clear FPn
                have BWn := Aside0.mk (show Below w.heap.size w W4 from BW.out.trans ⟨hgr.os, hgr.tape, hgr.output, hgr.size, fun i hi => hgr.block i (Nat.lt_of_lt_of_le hi BW.out.size) (fun e => by have h1 := Option.some.inj e; have h2 := FM.out.1; omega)⟩); clear BW; have BW := BWn; clear BWn
                have FMn := Aside0.mk (show w.heap.size ≤ g ∧ impl_MostInformed.Holds W4 g (fun x => False ∨ x = SH) from ⟨FM.out.1, hadd⟩); clear FM; have FM := FMn; clear FMn
                clear hrun hadd hgr
                refine hK.out _ _ trivial (fun _ => ?_)
                clear hK K
                refine pure_ (i := 7) (N := some 39) (v := ?_) (a' := ?_) #[true, true, true, true, true, true, true, true, true, false, false, false] rfl rfl (any_of HT_.out (by kernel_rfl)) (fun _ _ _ h => h) (Or.inl ⟨by rfl, ?_⟩) ?_ ?_
                rotate_left
                · intro w'
                  go_simp
                  with_reducible rfl
                rotate_left
                · simp only [Act.put, List.setIfInBounds_toArray, List.set_cons_zero, List.set_cons_succ, i64_w, i32_w]
                  rfl
                refine one_ (i := 9) (N := none) #[true, true, true, true, true, true, true, true, true, true, false, false] rfl rfl (one_of HT_.out (by kernel_rfl)) (by decide) (fun K hK => ?_)
                have q0 := FP.out.2
                have q1 := blk_set q0 0 (.int .i64 a0)
                have q2 := blk_set q1 1 (.slice A1 l1.length c1)
                have q3 := blk_set q2 2 (.map (some b))
                refine skip_ (w1 := (((W4.setCell ⟨p, 0, none⟩ (.int .i64 a0)).setCell ⟨p, 1, none⟩ (.slice A1 l1.length c1)).setCell ⟨p, 2, none⟩ (.map (some b)))) (by rfl) rfl ?_ ?_
                · have x0 := (blk_cell q0 0).trans rfl
                  have x1 := (blk_cell q1 1).trans rfl
                  have x2 := (blk_cell q2 2).trans rfl
                  have y0 := blk_frozen q0 0
                  have y1 := blk_frozen q1 1
                  have y2 := blk_frozen q2 2
                  go_simp
                have BWn := Aside0.mk (show Below w.heap.size w (((W4.setCell ⟨p, 0, none⟩ (.int .i64 a0)).setCell ⟨p, 1, none⟩ (.slice A1 l1.length c1)).setCell ⟨p, 2, none⟩ (.map (some b))) from ((BW.out.setCell (p := ⟨p, 0, none⟩) FP.out.1 _).setCell (p := ⟨p, 1, none⟩) FP.out.1 _).setCell (p := ⟨p, 2, none⟩) FP.out.1 _); clear BW; have BW := BWn; clear BWn
                have hgp := FM.out.2.ne q0
                have FMn := Aside0.mk (show w.heap.size ≤ g ∧ impl_MostInformed.Holds (((W4.setCell ⟨p, 0, none⟩ (.int .i64 a0)).setCell ⟨p, 1, none⟩ (.slice A1 l1.length c1)).setCell ⟨p, 2, none⟩ (.map (some b))) g (fun x => False ∨ x = SH) from ⟨FM.out.1, ((FM.out.2.set hgp _).set hgp _).set hgp _⟩); clear FM; have FM := FMn; clear FMn
                clear hgp
                obtain ⟨W5, hW5⟩ : ∃ z, z = (((W4.setCell ⟨p, 0, none⟩ (.int .i64 a0)).setCell ⟨p, 1, none⟩ (.slice A1 l1.length c1)).setCell ⟨p, 2, none⟩ (.map (some b))) := ⟨_, rfl⟩
                rw [← hW5] at BW FM q3 ⊢
                have FPn := Aside0.mk (show w.heap.size ≤ p ∧ W5.heap[p]? = some (.cells #[.int .i64 a0, .slice A1 l1.length c1, .map (some b)] 61 (0, 0)) from ⟨FP.out.1, q3⟩); clear FP; have FP := FPn; clear FPn
                clear q0 q1 q2 q3 hW5
                refine hK.out _ _ trivial (fun _ => ?_)
                clear hK K
                exact hjoin ⟨b, g, p⟩ _ ⟨BW, FM, FP⟩
              · have q0 := FP.out.2
                have q1 := blk_set q0 0 (.int .i64 a0)
                have q2 := blk_set q1 1 (.slice A1 l1.length c1)
                have q3 := blk_set q2 2 (.map (some b))
                refine skip_ (w1 := (((W3.setCell ⟨p, 0, none⟩ (.int .i64 a0)).setCell ⟨p, 1, none⟩ (.slice A1 l1.length c1)).setCell ⟨p, 2, none⟩ (.map (some b)))) (by rfl) rfl ?_ ?_
                · have x0 := (blk_cell q0 0).trans rfl
                  have x1 := (blk_cell q1 1).trans rfl
                  have x2 := (blk_cell q2 2).trans rfl
                  have y0 := blk_frozen q0 0
                  have y1 := blk_frozen q1 1
                  have y2 := blk_frozen q2 2
                  go_simp
                have BWn := Aside0.mk (show Below w.heap.size w (((W3.setCell ⟨p, 0, none⟩ (.int .i64 a0)).setCell ⟨p, 1, none⟩ (.slice A1 l1.length c1)).setCell ⟨p, 2, none⟩ (.map (some b))) from ((BW.out.setCell (p := ⟨p, 0, none⟩) FP.out.1 _).setCell (p := ⟨p, 1, none⟩) FP.out.1 _).setCell (p := ⟨p, 2, none⟩) FP.out.1 _); clear BW; have BW := BWn; clear BWn
                have hgp := FM.out.2.ne q0
                have FMn := Aside0.mk (show w.heap.size ≤ g ∧ impl_MostInformed.Holds (((W3.setCell ⟨p, 0, none⟩ (.int .i64 a0)).setCell ⟨p, 1, none⟩ (.slice A1 l1.length c1)).setCell ⟨p, 2, none⟩ (.map (some b))) g (fun x => False) from ⟨FM.out.1, ((FM.out.2.set hgp _).set hgp _).set hgp _⟩); clear FM; have FM := FMn; clear FMn
                clear hgp
                obtain ⟨W4, hW4⟩ : ∃ z, z = (((W3.setCell ⟨p, 0, none⟩ (.int .i64 a0)).setCell ⟨p, 1, none⟩ (.slice A1 l1.length c1)).setCell ⟨p, 2, none⟩ (.map (some b))) := ⟨_, rfl⟩
                rw [← hW4] at BW FM q3 ⊢
                have FPn := Aside0.mk (show w.heap.size ≤ p ∧ W4.heap[p]? = some (.cells #[.int .i64 a0, .slice A1 l1.length c1, .map (some b)] 61 (0, 0)) from ⟨FP.out.1, q3⟩); clear FP; have FP := FPn; clear FPn
                clear q0 q1 q2 q3 hW4
                refine hK.out _ _ trivial (fun _ => ?_)
                clear hK K
                refine one_ (i := 6) (N := none) #[true, true, true, true, true, true, true, false, true, true, false, false] rfl rfl (one_of HT_.out (by kernel_rfl)) (by decide) (fun K hK => ?_)
                obtain ⟨W5, hrun, hadd, hgr⟩ := FM.out.2.add HU.out.1 HU.out.2
                refine skip_ (w1 := W5) (by rfl) rfl ?_ ?_
                · first | (go_simp; done) | (go_simp; rfl)
                have FPn := Aside0.mk (show w.heap.size ≤ p ∧ W5.heap[p]? = some (.cells #[.int .i64 a0, .slice A1 l1.length c1, .map (some b)] 61 (0, 0)) from ⟨FP.out.1, (hgr.block p (Array.getElem?_eq_some_iff.1 FP.out.2).1 (fun e => (FM.out.2.ne FP.out.2) (Option.some.inj e).symm)).trans FP.out.2⟩); clear FP; have FP := FPn; clear FPn
                have BWn := Aside0.mk (show Below w.heap.size w W5 from BW.out.trans ⟨hgr.os, hgr.tape, hgr.output, hgr.size, fun i hi => hgr.block i (Nat.lt_of_lt_of_le hi BW.out.size) (fun e => by have h1 := Option.some.inj e; have h2 := FM.out.1; omega)⟩); clear BW; have BW := BWn; clear BWn
                have FMn := Aside0.mk (show w.heap.size ≤ g ∧ impl_MostInformed.Holds W5 g (fun x => False ∨ x = SH) from ⟨FM.out.1, hadd⟩); clear FM; have FM := FMn; clear FMn
                clear hrun hadd hgr
                refine hK.out _ _ trivial (fun _ => ?_)
                clear hK K
                refine pure_ (i := 7) (N := some 39) (v := ?_) (a' := ?_) #[true, true, true, true, true, true, true, true, true, true, false, false] rfl rfl (any_of HT_.out (by kernel_rfl)) (fun _ _ _ h => h) (Or.inl ⟨by rfl, ?_⟩) ?_ ?_
                rotate_left
                · intro w'
                  go_simp
                  with_reducible rfl
                rotate_left
                · simp only [Act.put, List.setIfInBounds_toArray, List.set_cons_zero, List.set_cons_succ, i64_w, i32_w]
                  rfl
                exact hjoin ⟨b, g, p⟩ _ ⟨BW, FM, FP⟩
          · obtain ⟨W2, hrun, hadd, hgr⟩ := FM.out.2.add HU.out.1 HU.out.2
            refine skip_ (w1 := W2) (by rfl) rfl ?_ ?_
            · first | (go_simp; done) | (go_simp; rfl)
            have BWn := Aside0.mk (show Below w.heap.size w W2 from BW.out.trans ⟨hgr.os, hgr.tape, hgr.output, hgr.size, fun i hi => hgr.block i (Nat.lt_of_lt_of_le hi BW.out.size) (fun e => by have h1 := Option.some.inj e; have h2 := FM.out.1; omega)⟩); clear BW; have BW := BWn; clear BWn
            have FMn := Aside0.mk (show w.heap.size ≤ g ∧ impl_MostInformed.Holds W2 g (fun x => False ∨ x = SH) from ⟨FM.out.1, hadd⟩); clear FM; have FM := FMn; clear FMn
            clear hrun hadd hgr
            refine hK.out _ _ trivial (fun _ => ?_)
            clear hK K
            refine pure_ (i := 7) (N := some 39) (v := ?_) (a' := ?_) #[true, true, false, true, true, true, true, true, false, false, false, false] rfl rfl (any_of HT_.out (by kernel_rfl)) (fun _ _ _ h => h) (Or.inl ⟨by rfl, ?_⟩) ?_ ?_
            rotate_left
            · intro w'
              go_simp
              with_reducible rfl
            rotate_left
            · simp only [Act.put, List.setIfInBounds_toArray, List.set_cons_zero, List.set_cons_succ, i64_w, i32_w]
              rfl
            refine two_ (i := 2) (j := 8) (Ni := some 35) (Nj := some 10) #[true, true, true, true, true, true, true, true, false, false, false, false] #[true, true, false, true, true, true, true, true, true, false, false, false] rfl rfl rfl rfl (two_of HT_.out (by kernel_rfl)) (by decide) (by decide) (fun K hK => ?_) (fun K hK => ?_)
            · refine goes_ Try.func36 (by kernel_rfl) rfl #[.int .i64 a0, .slice A1 l1.length c1] (by rfl) rfl rfl (by (try simp only [List.map_toArray, List.map_cons, List.map_nil]); rfl) ?_
              refine (impl_spreadOf.calls a0 A1 l1.length c1 W2).mono ?_
              rintro e W3 ⟨b, rfl, hbs, hbm, hb3⟩
              refine ⟨_, rfl, ?_⟩
              have FMn := Aside0.mk (show w.heap.size ≤ g ∧ impl_MostInformed.Holds W3 g (fun x => False ∨ x = SH) from ⟨FM.out.1, FM.out.2.below hb3⟩); clear FM; have FM := FMn; clear FMn
              have BWn := Aside0.mk (show Below w.heap.size w W3 from below_step BW.out hb3); clear BW; have BW := BWn; clear BWn
              clear hbs hbm hb3
              refine hK.out _ _ trivial (fun _ => ?_)
              clear hK K
              refine norm_ (a' := ?_) ?_ ?_
              rotate_left
              · show Act.put _ (some 35) _ = _
                simp only [Act.put, List.setIfInBounds_toArray, List.set_cons_zero, List.set_cons_succ, i64_w, i32_w]
                rfl
              refine one_ (i := 8) (N := some 10) #[true, true, true, true, true, true, true, true, true, false, false, false] rfl rfl (one_of HT_.out (by kernel_rfl)) (by decide) (fun K hK => ?_)
              refine value_ (v := (.pointer (some ⟨W3.heap.size, 0, none⟩))) (w1 := W3.alloc (.cells #[.int .i64 0, .slice none 0 0, .map none] 61)) (by rfl) rfl ?_ ?_
              · first | (go_simp; done) | (go_simp; rfl)
              obtain ⟨p, hp⟩ : ∃ p, p = W3.heap.size := ⟨_, rfl⟩
              have hnew := heap_alloc_new W3 (.cells #[.int .i64 0, .slice none 0 0, .map none] 61)
              have hbl := below_alloc (Below.refl W3.heap.size W3) (.cells #[.int .i64 0, .slice none 0 0, .map none] 61)
              obtain ⟨W4, hW4⟩ : ∃ z, z = W3.alloc (.cells #[.int .i64 0, .slice none 0 0, .map none] 61) := ⟨_, rfl⟩
              rw [← hW4] at hnew hbl
              have FMn := Aside0.mk (show w.heap.size ≤ g ∧ impl_MostInformed.Holds W4 g (fun x => False ∨ x = SH) from ⟨FM.out.1, FM.out.2.below hbl⟩); clear FM; have FM := FMn; clear FMn
              have FP := Aside0.mk (show w.heap.size ≤ p ∧ W4.heap[p]? = some (.cells #[.int .i64 0, .slice none 0 0, .map none] 61 (0, 0)) from ⟨by rw [hp]; exact BW.out.size, by rw [hp]; exact hnew⟩)
              have BWn := Aside0.mk (show Below w.heap.size w W4 from below_step BW.out hbl); clear BW; have BW := BWn; clear BWn
              rw [← hp, ← hW4]
              clear hp hW4 hnew hbl
              refine hK.out _ _ trivial (fun _ => ?_)
              clear hK K
              refine norm_ (a' := ?_) ?_ ?_
              rotate_left
              · show Act.put _ (some 10) _ = _
                simp only [Act.put, List.setIfInBounds_toArray, List.set_cons_zero, List.set_cons_succ, i64_w, i32_w]
                rfl
              refine one_ (i := 9) (N := none) #[true, true, true, true, true, true, true, true, true, true, false, false] rfl rfl (one_of HT_.out (by kernel_rfl)) (by decide) (fun K hK => ?_)
              have q0 := FP.out.2
              have q1 := blk_set q0 0 (.int .i64 a0)
              have q2 := blk_set q1 1 (.slice A1 l1.length c1)
              have q3 := blk_set q2 2 (.map (some b))
              refine skip_ (w1 := (((W4.setCell ⟨p, 0, none⟩ (.int .i64 a0)).setCell ⟨p, 1, none⟩ (.slice A1 l1.length c1)).setCell ⟨p, 2, none⟩ (.map (some b)))) (by rfl) rfl ?_ ?_
              · have x0 := (blk_cell q0 0).trans rfl
                have x1 := (blk_cell q1 1).trans rfl
                have x2 := (blk_cell q2 2).trans rfl
                have y0 := blk_frozen q0 0
                have y1 := blk_frozen q1 1
                have y2 := blk_frozen q2 2
                go_simp
              have BWn := Aside0.mk (show Below w.heap.size w (((W4.setCell ⟨p, 0, none⟩ (.int .i64 a0)).setCell ⟨p, 1, none⟩ (.slice A1 l1.length c1)).setCell ⟨p, 2, none⟩ (.map (some b))) from ((BW.out.setCell (p := ⟨p, 0, none⟩) FP.out.1 _).setCell (p := ⟨p, 1, none⟩) FP.out.1 _).setCell (p := ⟨p, 2, none⟩) FP.out.1 _); clear BW; have BW := BWn; clear BWn
              have hgp := FM.out.2.ne q0
              have FMn := Aside0.mk (show w.heap.size ≤ g ∧ impl_MostInformed.Holds (((W4.setCell ⟨p, 0, none⟩ (.int .i64 a0)).setCell ⟨p, 1, none⟩ (.slice A1 l1.length c1)).setCell ⟨p, 2, none⟩ (.map (some b))) g (fun x => False ∨ x = SH) from ⟨FM.out.1, ((FM.out.2.set hgp _).set hgp _).set hgp _⟩); clear FM; have FM := FMn; clear FMn
              clear hgp
              obtain ⟨W5, hW5⟩ : ∃ z, z = (((W4.setCell ⟨p, 0, none⟩ (.int .i64 a0)).setCell ⟨p, 1, none⟩ (.slice A1 l1.length c1)).setCell ⟨p, 2, none⟩ (.map (some b))) := ⟨_, rfl⟩
              rw [← hW5] at BW FM q3 ⊢
              have FPn := Aside0.mk (show w.heap.size ≤ p ∧ W5.heap[p]? = some (.cells #[.int .i64 a0, .slice A1 l1.length c1, .map (some b)] 61 (0, 0)) from ⟨FP.out.1, q3⟩); clear FP; have FP := FPn; clear FPn
              clear q0 q1 q2 q3 hW5
              refine hK.out _ _ trivial (fun _ => ?_)
              clear hK K
              exact hjoin ⟨b, g, p⟩ _ ⟨BW, FM, FP⟩
            · refine value_ (v := (.pointer (some ⟨W2.heap.size, 0, none⟩))) (w1 := W2.alloc (.cells #[.int .i64 0, .slice none 0 0, .map none] 61)) (by rfl) rfl ?_ ?_
              · first | (go_simp; done) | (go_simp; rfl)
              obtain ⟨p, hp⟩ : ∃ p, p = W2.heap.size := ⟨_, rfl⟩
              have hnew := heap_alloc_new W2 (.cells #[.int .i64 0, .slice none 0 0, .map none] 61)
              have hbl := below_alloc (Below.refl W2.heap.size W2) (.cells #[.int .i64 0, .slice none 0 0, .map none] 61)
              obtain ⟨W3, hW3⟩ : ∃ z, z = W2.alloc (.cells #[.int .i64 0, .slice none 0 0, .map none] 61) := ⟨_, rfl⟩
              rw [← hW3] at hnew hbl
              have FMn := Aside0.mk (show w.heap.size ≤ g ∧ impl_MostInformed.Holds W3 g (fun x => False ∨ x = SH) from ⟨FM.out.1, FM.out.2.below hbl⟩); clear FM; have FM := FMn; clear FMn
              have FP := Aside0.mk (show w.heap.size ≤ p ∧ W3.heap[p]? = some (.cells #[.int .i64 0, .slice none 0 0, .map none] 61 (0, 0)) from ⟨by rw [hp]; exact BW.out.size, by rw [hp]; exact hnew⟩)
              have BWn := Aside0.mk (show Below w.heap.size w W3 from below_step BW.out hbl); clear BW; have BW := BWn; clear BWn
              rw [← hp, ← hW3]
              clear hp hW3 hnew hbl
              refine hK.out _ _ trivial (fun _ => ?_)
              clear hK K
              refine norm_ (a' := ?_) ?_ ?_
              rotate_left
              · show Act.put _ (some 10) _ = _
                simp only [Act.put, List.setIfInBounds_toArray, List.set_cons_zero, List.set_cons_succ, i64_w, i32_w]
                rfl
              refine one_ (i := 2) (N := some 35) #[true, true, true, true, true, true, true, true, true, false, false, false] rfl rfl (one_of HT_.out (by kernel_rfl)) (by decide) (fun K hK => ?_)
              refine goes_ Try.func36 (by kernel_rfl) rfl #[.int .i64 a0, .slice A1 l1.length c1] (by rfl) rfl rfl (by (try simp only [List.map_toArray, List.map_cons, List.map_nil]); rfl) ?_
              refine (impl_spreadOf.calls a0 A1 l1.length c1 W3).mono ?_
              rintro e W4 ⟨b, rfl, hbs, hbm, hb3⟩
              refine ⟨_, rfl, ?_⟩
              have FMn := Aside0.mk (show w.heap.size ≤ g ∧ impl_MostInformed.Holds W4 g (fun x => False ∨ x = SH) from ⟨FM.out.1, FM.out.2.below hb3⟩); clear FM; have FM := FMn; clear FMn
              have FPn := Aside0.mk (show w.heap.size ≤ p ∧ W4.heap[p]? = some (.cells #[.int .i64 0, .slice none 0 0, .map none] 61 (0, 0)) from ⟨FP.out.1, (hb3.block p (Array.getElem?_eq_some_iff.1 FP.out.2).1).trans FP.out.2⟩); clear FP; have FP := FPn; clear FPn
              have BWn := Aside0.mk (show Below w.heap.size w W4 from below_step BW.out hb3); clear BW; have BW := BWn; clear BWn
              clear hbs hbm hb3
              refine hK.out _ _ trivial (fun _ => ?_)
              clear hK K
              refine norm_ (a' := ?_) ?_ ?_
              rotate_left
              · show Act.put _ (some 35) _ = _
                simp only [Act.put, List.setIfInBounds_toArray, List.set_cons_zero, List.set_cons_succ, i64_w, i32_w]
                rfl
              refine one_ (i := 9) (N := none) #[true, true, true, true, true, true, true, true, true, true, false, false] rfl rfl (one_of HT_.out (by kernel_rfl)) (by decide) (fun K hK => ?_)
              have q0 := FP.out.2
              have q1 := blk_set q0 0 (.int .i64 a0)
              have q2 := blk_set q1 1 (.slice A1 l1.length c1)
              have q3 := blk_set q2 2 (.map (some b))
              refine skip_ (w1 := (((W4.setCell ⟨p, 0, none⟩ (.int .i64 a0)).setCell ⟨p, 1, none⟩ (.slice A1 l1.length c1)).setCell ⟨p, 2, none⟩ (.map (some b)))) (by rfl) rfl ?_ ?_
              · have x0 := (blk_cell q0 0).trans rfl
                have x1 := (blk_cell q1 1).trans rfl
                have x2 := (blk_cell q2 2).trans rfl
                have y0 := blk_frozen q0 0
                have y1 := blk_frozen q1 1
                have y2 := blk_frozen q2 2
                go_simp
              have BWn := Aside0.mk (show Below w.heap.size w (((W4.setCell ⟨p, 0, none⟩ (.int .i64 a0)).setCell ⟨p, 1, none⟩ (.slice A1 l1.length c1)).setCell ⟨p, 2, none⟩ (.map (some b))) from ((BW.out.setCell (p := ⟨p, 0, none⟩) FP.out.1 _).setCell (p := ⟨p, 1, none⟩) FP.out.1 _).setCell (p := ⟨p, 2, none⟩) FP.out.1 _); clear BW; have BW := BWn; clear BWn
              have hgp := FM.out.2.ne q0
              have FMn := Aside0.mk (show w.heap.size ≤ g ∧ impl_MostInformed.Holds (((W4.setCell ⟨p, 0, none⟩ (.int .i64 a0)).setCell ⟨p, 1, none⟩ (.slice A1 l1.length c1)).setCell ⟨p, 2, none⟩ (.map (some b))) g (fun x => False ∨ x = SH) from ⟨FM.out.1, ((FM.out.2.set hgp _).set hgp _).set hgp _⟩); clear FM; have FM := FMn; clear FMn
              clear hgp
              obtain ⟨W5, hW5⟩ : ∃ z, z = (((W4.setCell ⟨p, 0, none⟩ (.int .i64 a0)).setCell ⟨p, 1, none⟩ (.slice A1 l1.length c1)).setCell ⟨p, 2, none⟩ (.map (some b))) := ⟨_, rfl⟩
              rw [← hW5] at BW FM q3 ⊢
              have FPn := Aside0.mk (show w.heap.size ≤ p ∧ W5.heap[p]? = some (.cells #[.int .i64 a0, .slice A1 l1.length c1, .map (some b)] 61 (0, 0)) from ⟨FP.out.1, q3⟩); clear FP; have FP := FPn; clear FPn
              clear q0 q1 q2 q3 hW5
              refine hK.out _ _ trivial (fun _ => ?_)
              clear hK K
              exact hjoin ⟨b, g, p⟩ _ ⟨BW, FM, FP⟩
          · refine value_ (v := (.pointer (some ⟨W1.heap.size, 0, none⟩))) (w1 := W1.alloc (.cells #[.int .i64 0, .slice none 0 0, .map none] 61)) (by rfl) rfl ?_ ?_
            · first | (go_simp; done) | (go_simp; rfl)
            obtain ⟨p, hp⟩ : ∃ p, p = W1.heap.size := ⟨_, rfl⟩
            have hnew := heap_alloc_new W1 (.cells #[.int .i64 0, .slice none 0 0, .map none] 61)
            have hbl := below_alloc (Below.refl W1.heap.size W1) (.cells #[.int .i64 0, .slice none 0 0, .map none] 61)
            obtain ⟨W2, hW2⟩ : ∃ z, z = W1.alloc (.cells #[.int .i64 0, .slice none 0 0, .map none] 61) := ⟨_, rfl⟩
            rw [← hW2] at hnew hbl
            have FMn := Aside0.mk (show w.heap.size ≤ g ∧ impl_MostInformed.Holds W2 g (fun x => False) from ⟨FM.out.1, FM.out.2.below hbl⟩); clear FM; have FM := FMn; clear FMn
            have FP := Aside0.mk (show w.heap.size ≤ p ∧ W2.heap[p]? = some (.cells #[.int .i64 0, .slice none 0 0, .map none] 61 (0, 0)) from ⟨by rw [hp]; exact BW.out.size, by rw [hp]; exact hnew⟩)
            have BWn := Aside0.mk (show Below w.heap.size w W2 from below_step BW.out hbl); clear BW; have BW := BWn; clear BWn
            rw [← hp, ← hW2]
            clear hp hW2 hnew hbl
            refine hK.out _ _ trivial (fun _ => ?_)
            clear hK K
            refine norm_ (a' := ?_) ?_ ?_
            rotate_left
            · show Act.put _ (some 10) _ = _
              simp only [Act.put, List.setIfInBounds_toArray, List.set_cons_zero, List.set_cons_succ, i64_w, i32_w]
              rfl
            refine two_ (i := 2) (j := 6) (Ni := some 35) (Nj := none) #[true, true, true, true, true, true, false, false, true, false, false, false] #[true, true, false, true, true, true, true, false, true, false, false, false] rfl rfl rfl rfl (two_of HT_.out (by kernel_rfl)) (by decide) (by decide) (fun K hK => ?_) (fun K hK => ?_)
            · refine goes_ Try.func36 (by kernel_rfl) rfl #[.int .i64 a0, .slice A1 l1.length c1] (by rfl) rfl rfl (by (try simp only [List.map_toArray, List.map_cons, List.map_nil]); rfl) ?_
              refine (impl_spreadOf.calls a0 A1 l1.length c1 W2).mono ?_
              rintro e W3 ⟨b, rfl, hbs, hbm, hb3⟩
              refine ⟨_, rfl, ?_⟩
              have FMn := Aside0.mk (show w.heap.size ≤ g ∧ impl_MostInformed.Holds W3 g (fun x => False) from ⟨FM.out.1, FM.out.2.below hb3⟩); clear FM; have FM := FMn; clear FMn
              have FPn := Aside0.mk (show w.heap.size ≤ p ∧ W3.heap[p]? = some (.cells #[.int .i64 0, .slice none 0 0, .map none] 61 (0, 0)) from ⟨FP.out.1, (hb3.block p (Array.getElem?_eq_some_iff.1 FP.out.2).1).trans FP.out.2⟩); clear FP; have FP := FPn; clear FPn
              have BWn := Aside0.mk (show Below w.heap.size w W3 from below_step BW.out hb3); clear BW; have BW := BWn; clear BWn
              clear hbs hbm hb3
              refine hK.out _ _ trivial (fun _ => ?_)
              clear hK K
              refine norm_ (a' := ?_) ?_ ?_
              rotate_left
              · show Act.put _ (some 35) _ = _
                simp only [Act.put, List.setIfInBounds_toArray, List.set_cons_zero, List.set_cons_succ, i64_w, i32_w]
                rfl
              refine two_ (i := 6) (j := 9) (Ni := none) (Nj := none) #[true, true, true, true, true, true, true, false, true, false, false, false] #[true, true, true, true, true, true, false, false, true, true, false, false] rfl rfl rfl rfl (two_of HT_.out (by kernel_rfl)) (by decide) (by decide) (fun K hK => ?_) (fun K hK => ?_)
              · obtain ⟨W4, hrun, hadd, hgr⟩ := FM.out.2.add HU.out.1 HU.out.2
                refine skip_ (w1 := W4) (by rfl) rfl ?_ ?_
                · first | (go_simp; done) | (go_simp; rfl)
                have FPn := Aside0.mk (show w.heap.size ≤ p ∧ W4.heap[p]? = some (.cells #[.int .i64 0, .slice none 0 0, .map none] 61 (0, 0)) from ⟨FP.out.1, (hgr.block p (Array.getElem?_eq_some_iff.1 FP.out.2).1 (fun e => (FM.out.2.ne FP.out.2) (Option.some.inj e).symm)).trans FP.out.2⟩); clear FP; have FP := FPn; clear FPn
                have BWn := Aside0.mk (show Below w.heap.size w W4 from BW.out.trans ⟨hgr.os, hgr.tape, hgr.output, hgr.size, fun i hi => hgr.block i (Nat.lt_of_lt_of_le hi BW.out.size) (fun e => by have h1 := Option.some.inj e; have h2 := FM.out.1; omega)⟩); clear BW; have BW := BWn; clear BWn
                have FMn := Aside0.mk (show w.heap.size ≤ g ∧ impl_MostInformed.Holds W4 g (fun x => False ∨ x = SH) from ⟨FM.out.1, hadd⟩); clear FM; have FM := FMn; clear FMn
                clear hrun hadd hgr
                refine hK.out _ _ trivial (fun _ => ?_)
                clear hK K
                refine pure_ (i := 7) (N := some 39) (v := ?_) (a' := ?_) #[true, true, true, true, true, true, true, true, true, false, false, false] rfl rfl (any_of HT_.out (by kernel_rfl)) (fun _ _ _ h => h) (Or.inl ⟨by rfl, ?_⟩) ?_ ?_
                rotate_left
                · intro w'
                  go_simp
                  with_reducible rfl
                rotate_left
                · simp only [Act.put, List.setIfInBounds_toArray, List.set_cons_zero, List.set_cons_succ, i64_w, i32_w]
                  rfl
                refine one_ (i := 9) (N := none) #[true, true, true, true, true, true, true, true, true, true, false, false] rfl rfl (one_of HT_.out (by kernel_rfl)) (by decide) (fun K hK => ?_)
                have q0 := FP.out.2
                have q1 := blk_set q0 0 (.int .i64 a0)
                have q2 := blk_set q1 1 (.slice A1 l1.length c1)
                have q3 := blk_set q2 2 (.map (some b))
                refine skip_ (w1 := (((W4.setCell ⟨p, 0, none⟩ (.int .i64 a0)).setCell ⟨p, 1, none⟩ (.slice A1 l1.length c1)).setCell ⟨p, 2, none⟩ (.map (some b)))) (by rfl) rfl ?_ ?_
                · have x0 := (blk_cell q0 0).trans rfl
                  have x1 := (blk_cell q1 1).trans rfl
                  have x2 := (blk_cell q2 2).trans rfl
                  have y0 := blk_frozen q0 0
                  have y1 := blk_frozen q1 1
                  have y2 := blk_frozen q2 2
                  go_simp
                have BWn := Aside0.mk (show Below w.heap.size w (((W4.setCell ⟨p, 0, none⟩ (.int .i64 a0)).setCell ⟨p, 1, none⟩ (.slice A1 l1.length c1)).setCell ⟨p, 2, none⟩ (.map (some b))) from ((BW.out.setCell (p := ⟨p, 0, none⟩) FP.out.1 _).setCell (p := ⟨p, 1, none⟩) FP.out.1 _).setCell (p := ⟨p, 2, none⟩) FP.out.1 _); clear BW; have BW := BWn; clear BWn
                have hgp := FM.out.2.ne q0
                have FMn := Aside0.mk (show w.heap.size ≤ g ∧ impl_MostInformed.Holds (((W4.setCell ⟨p, 0, none⟩ (.int .i64 a0)).setCell ⟨p, 1, none⟩ (.slice A1 l1.length c1)).setCell ⟨p, 2, none⟩ (.map (some b))) g (fun x => False ∨ x = SH) from ⟨FM.out.1, ((FM.out.2.set hgp _).set hgp _).set hgp _⟩); clear FM; have FM := FMn; clear FMn
                clear hgp
                obtain ⟨W5, hW5⟩ : ∃ z, z = (((W4.setCell ⟨p, 0, none⟩ (.int .i64 a0)).setCell ⟨p, 1, none⟩ (.slice A1 l1.length c1)).setCell ⟨p, 2, none⟩ (.map (some b))) := ⟨_, rfl⟩
                rw [← hW5] at BW FM q3 ⊢
                have FPn := Aside0.mk (show w.heap.size ≤ p ∧ W5.heap[p]? = some (.cells #[.int .i64 a0, .slice A1 l1.length c1, .map (some b)] 61 (0, 0)) from ⟨FP.out.1, q3⟩); clear FP; have FP := FPn; clear FPn
                clear q0 q1 q2 q3 hW5
                refine hK.out _ _ trivial (fun _ => ?_)
                clear hK K
                exact hjoin ⟨b, g, p⟩ _ ⟨BW, FM, FP⟩
              · have q0 := FP.out.2
                have q1 := blk_set q0 0 (.int .i64 a0)
                have q2 := blk_set q1 1 (.slice A1 l1.length c1)
                have q3 := blk_set q2 2 (.map (some b))
                refine skip_ (w1 := (((W3.setCell ⟨p, 0, none⟩ (.int .i64 a0)).setCell ⟨p, 1, none⟩ (.slice A1 l1.length c1)).setCell ⟨p, 2, none⟩ (.map (some b)))) (by rfl) rfl ?_ ?_
                · have x0 := (blk_cell q0 0).trans rfl
                  have x1 := (blk_cell q1 1).trans rfl
                  have x2 := (blk_cell q2 2).trans rfl
                  have y0 := blk_frozen q0 0
                  have y1 := blk_frozen q1 1
                  have y2 := blk_frozen q2 2
                  go_simp
                have BWn := Aside0.mk (show Below w.heap.size w (((W3.setCell ⟨p, 0, none⟩ (.int .i64 a0)).setCell ⟨p, 1, none⟩ (.slice A1 l1.length c1)).setCell ⟨p, 2, none⟩ (.map (some b))) from ((BW.out.setCell (p := ⟨p, 0, none⟩) FP.out.1 _).setCell (p := ⟨p, 1, none⟩) FP.out.1 _).setCell (p := ⟨p, 2, none⟩) FP.out.1 _); clear BW; have BW := BWn; clear BWn
                have hgp := FM.out.2.ne q0
                have FMn := Aside0.mk (show w.heap.size ≤ g ∧ impl_MostInformed.Holds (((W3.setCell ⟨p, 0, none⟩ (.int .i64 a0)).setCell ⟨p, 1, none⟩ (.slice A1 l1.length c1)).setCell ⟨p, 2, none⟩ (.map (some b))) g (fun x => False) from ⟨FM.out.1, ((FM.out.2.set hgp _).set hgp _).set hgp _⟩); clear FM; have FM := FMn; clear FMn
                clear hgp
                obtain ⟨W4, hW4⟩ : ∃ z, z = (((W3.setCell ⟨p, 0, none⟩ (.int .i64 a0)).setCell ⟨p, 1, none⟩ (.slice A1 l1.length c1)).setCell ⟨p, 2, none⟩ (.map (some b))) := ⟨_, rfl⟩
                rw [← hW4] at BW FM q3 ⊢
                have FPn := Aside0.mk (show w.heap.size ≤ p ∧ W4.heap[p]? = some (.cells #[.int .i64 a0, .slice A1 l1.length c1, .map (some b)] 61 (0, 0)) from ⟨FP.out.1, q3⟩); clear FP; have FP := FPn; clear FPn
                clear q0 q1 q2 q3 hW4
                refine hK.out _ _ trivial (fun _ => ?_)
                clear hK K
                refine one_ (i := 6) (N := none) #[true, true, true, true, true, true, true, false, true, true, false, false] rfl rfl (one_of HT_.out (by kernel_rfl)) (by decide) (fun K hK => ?_)
                obtain ⟨W5, hrun, hadd, hgr⟩ := FM.out.2.add HU.out.1 HU.out.2
                refine skip_ (w1 := W5) (by rfl) rfl ?_ ?_
                · first | (go_simp; done) | (go_simp; rfl)
                have FPn := Aside0.mk (show w.heap.size ≤ p ∧ W5.heap[p]? = some (.cells #[.int .i64 a0, .slice A1 l1.length c1, .map (some b)] 61 (0, 0)) from ⟨FP.out.1, (hgr.block p (Array.getElem?_eq_some_iff.1 FP.out.2).1 (fun e => (FM.out.2.ne FP.out.2) (Option.some.inj e).symm)).trans FP.out.2⟩); clear FP; have FP := FPn; clear FPn
                have BWn := Aside0.mk (show Below w.heap.size w W5 from BW.out.trans ⟨hgr.os, hgr.tape, hgr.output, hgr.size, fun i hi => hgr.block i (Nat.lt_of_lt_of_le hi BW.out.size) (fun e => by have h1 := Option.some.inj e; have h2 := FM.out.1; omega)⟩); clear BW; have BW := BWn; clear BWn
                have FMn := Aside0.mk (show w.heap.size ≤ g ∧ impl_MostInformed.Holds W5 g (fun x => False ∨ x = SH) from ⟨FM.out.1, hadd⟩); clear FM; have FM := FMn; clear FMn
                clear hrun hadd hgr
                refine hK.out _ _ trivial (fun _ => ?_)
                clear hK K
                refine pure_ (i := 7) (N := some 39) (v := ?_) (a' := ?_) #[true, true, true, true, true, true, true, true, true, true, false, false] rfl rfl (any_of HT_.out (by kernel_rfl)) (fun _ _ _ h => h) (Or.inl ⟨by rfl, ?_⟩) ?_ ?_
                rotate_left
                · intro w'
                  go_simp
                  with_reducible rfl
                rotate_left
                · simp only [Act.put, List.setIfInBounds_toArray, List.set_cons_zero, List.set_cons_succ, i64_w, i32_w]
                  rfl
                exact hjoin ⟨b, g, p⟩ _ ⟨BW, FM, FP⟩
            · obtain ⟨W3, hrun, hadd, hgr⟩ := FM.out.2.add HU.out.1 HU.out.2
              refine skip_ (w1 := W3) (by rfl) rfl ?_ ?_
              · first | (go_simp; done) | (go_simp; rfl)
              have FPn := Aside0.mk (show w.heap.size ≤ p ∧ W3.heap[p]? = some (.cells #[.int .i64 0, .slice none 0 0, .map none] 61 (0, 0)) from ⟨FP.out.1, (hgr.block p (Array.getElem?_eq_some_iff.1 FP.out.2).1 (fun e => (FM.out.2.ne FP.out.2) (Option.some.inj e).symm)).trans FP.out.2⟩); clear FP; have FP := FPn; clear FPn
              have BWn := Aside0.mk (show Below w.heap.size w W3 from BW.out.trans ⟨hgr.os, hgr.tape, hgr.output, hgr.size, fun i hi => hgr.block i (Nat.lt_of_lt_of_le hi BW.out.size) (fun e => by have h1 := Option.some.inj e; have h2 := FM.out.1; omega)⟩); clear BW; have BW := BWn; clear BWn
              have FMn := Aside0.mk (show w.heap.size ≤ g ∧ impl_MostInformed.Holds W3 g (fun x => False ∨ x = SH) from ⟨FM.out.1, hadd⟩); clear FM; have FM := FMn; clear FMn
              clear hrun hadd hgr
              refine hK.out _ _ trivial (fun _ => ?_)
              clear hK K
              refine pure_ (i := 7) (N := some 39) (v := ?_) (a' := ?_) #[true, true, false, true, true, true, true, true, true, false, false, false] rfl rfl (any_of HT_.out (by kernel_rfl)) (fun _ _ _ h => h) (Or.inl ⟨by rfl, ?_⟩) ?_ ?_
              rotate_left
              · intro w'
                go_simp
                with_reducible rfl
              rotate_left
              · simp only [Act.put, List.setIfInBounds_toArray, List.set_cons_zero, List.set_cons_succ, i64_w, i32_w]
                rfl
              refine one_ (i := 2) (N := some 35) #[true, true, true, true, true, true, true, true, true, false, false, false] rfl rfl (one_of HT_.out (by kernel_rfl)) (by decide) (fun K hK => ?_)
              refine goes_ Try.func36 (by kernel_rfl) rfl #[.int .i64 a0, .slice A1 l1.length c1] (by rfl) rfl rfl (by (try simp only [List.map_toArray, List.map_cons, List.map_nil]); rfl) ?_
              refine (impl_spreadOf.calls a0 A1 l1.length c1 W3).mono ?_
              rintro e W4 ⟨b, rfl, hbs, hbm, hb3⟩
              refine ⟨_, rfl, ?_⟩
              have FMn := Aside0.mk (show w.heap.size ≤ g ∧ impl_MostInformed.Holds W4 g (fun x => False ∨ x = SH) from ⟨FM.out.1, FM.out.2.below hb3⟩); clear FM; have FM := FMn; clear FMn
              have FPn := Aside0.mk (show w.heap.size ≤ p ∧ W4.heap[p]? = some (.cells #[.int .i64 0, .slice none 0 0, .map none] 61 (0, 0)) from ⟨FP.out.1, (hb3.block p (Array.getElem?_eq_some_iff.1 FP.out.2).1).trans FP.out.2⟩); clear FP; have FP := FPn; clear FPn
              have BWn := Aside0.mk (show Below w.heap.size w W4 from below_step BW.out hb3); clear BW; have BW := BWn; clear BWn
              clear hbs hbm hb3
              refine hK.out _ _ trivial (fun _ => ?_)
              clear hK K
              refine norm_ (a' := ?_) ?_ ?_
              rotate_left
              · show Act.put _ (some 35) _ = _
                simp only [Act.put, List.setIfInBounds_toArray, List.set_cons_zero, List.set_cons_succ, i64_w, i32_w]
                rfl
              refine one_ (i := 9) (N := none) #[true, true, true, true, true, true, true, true, true, true, false, false] rfl rfl (one_of HT_.out (by kernel_rfl)) (by decide) (fun K hK => ?_)
              have q0 := FP.out.2
              have q1 := blk_set q0 0 (.int .i64 a0)
              have q2 := blk_set q1 1 (.slice A1 l1.length c1)
              have q3 := blk_set q2 2 (.map (some b))
              refine skip_ (w1 := (((W4.setCell ⟨p, 0, none⟩ (.int .i64 a0)).setCell ⟨p, 1, none⟩ (.slice A1 l1.length c1)).setCell ⟨p, 2, none⟩ (.map (some b)))) (by rfl) rfl ?_ ?_
              · have x0 := (blk_cell q0 0).trans rfl
                have x1 := (blk_cell q1 1).trans rfl
                have x2 := (blk_cell q2 2).trans rfl
                have y0 := blk_frozen q0 0
                have y1 := blk_frozen q1 1
                have y2 := blk_frozen q2 2
                go_simp
              have BWn := Aside0.mk (show Below w.heap.size w (((W4.setCell ⟨p, 0, none⟩ (.int .i64 a0)).setCell ⟨p, 1, none⟩ (.slice A1 l1.length c1)).setCell ⟨p, 2, none⟩ (.map (some b))) from ((BW.out.setCell (p := ⟨p, 0, none⟩) FP.out.1 _).setCell (p := ⟨p, 1, none⟩) FP.out.1 _).setCell (p := ⟨p, 2, none⟩) FP.out.1 _); clear BW; have BW := BWn; clear BWn
              have hgp := FM.out.2.ne q0
              have FMn := Aside0.mk (show w.heap.size ≤ g ∧ impl_MostInformed.Holds (((W4.setCell ⟨p, 0, none⟩ (.int .i64 a0)).setCell ⟨p, 1, none⟩ (.slice A1 l1.length c1)).setCell ⟨p, 2, none⟩ (.map (some b))) g (fun x => False ∨ x = SH) from ⟨FM.out.1, ((FM.out.2.set hgp _).set hgp _).set hgp _⟩); clear FM; have FM := FMn; clear FMn
              clear hgp
              obtain ⟨W5, hW5⟩ : ∃ z, z = (((W4.setCell ⟨p, 0, none⟩ (.int .i64 a0)).setCell ⟨p, 1, none⟩ (.slice A1 l1.length c1)).setCell ⟨p, 2, none⟩ (.map (some b))) := ⟨_, rfl⟩
              rw [← hW5] at BW FM q3 ⊢
              have FPn := Aside0.mk (show w.heap.size ≤ p ∧ W5.heap[p]? = some (.cells #[.int .i64 a0, .slice A1 l1.length c1, .map (some b)] 61 (0, 0)) from ⟨FP.out.1, q3⟩); clear FP; have FP := FPn; clear FPn
              clear q0 q1 q2 q3 hW5
              refine hK.out _ _ trivial (fun _ => ?_)
              clear hK K
              exact hjoin ⟨b, g, p⟩ _ ⟨BW, FM, FP⟩
        · refine value_ (v := (.pointer (some ⟨W0.heap.size, 0, none⟩))) (w1 := W0.alloc (.cells #[.int .i64 0, .slice none 0 0, .map none] 61)) (by rfl) rfl ?_ ?_
          · first | (go_simp; done) | (go_simp; rfl)
          obtain ⟨p, hp⟩ : ∃ p, p = W0.heap.size := ⟨_, rfl⟩
          have hnew := heap_alloc_new W0 (.cells #[.int .i64 0, .slice none 0 0, .map none] 61)
          have hbl := below_alloc (Below.refl W0.heap.size W0) (.cells #[.int .i64 0, .slice none 0 0, .map none] 61)
          obtain ⟨W1, hW1⟩ : ∃ z, z = W0.alloc (.cells #[.int .i64 0, .slice none 0 0, .map none] 61) := ⟨_, rfl⟩
          rw [← hW1] at hnew hbl
          have FP := Aside0.mk (show w.heap.size ≤ p ∧ W1.heap[p]? = some (.cells #[.int .i64 0, .slice none 0 0, .map none] 61 (0, 0)) from ⟨by rw [hp]; exact BW.out.size, by rw [hp]; exact hnew⟩)
          have BWn := Aside0.mk (show Below w.heap.size w W1 from below_step BW.out hbl); clear BW; have BW := BWn; clear BWn
          rw [← hp, ← hW1]
          clear hp hW1 hnew hbl
          refine hK.out _ _ trivial (fun _ => ?_)
          clear hK K
          refine norm_ (a' := ?_) ?_ ?_
          rotate_left
          · show Act.put _ (some 10) _ = _
            simp only [Act.put, List.setIfInBounds_toArray, List.set_cons_zero, List.set_cons_succ, i64_w, i32_w]
            rfl
          refine two_ (i := 2) (j := 3) (Ni := some 35) (Nj := some 36) #[true, true, true, false, true, true, false, false, true, false, false, false] #[true, true, false, true, true, true, false, false, true, false, false, false] rfl rfl rfl rfl (two_of HT_.out (by kernel_rfl)) (by decide) (by decide) (fun K hK => ?_) (fun K hK => ?_)
          · refine goes_ Try.func36 (by kernel_rfl) rfl #[.int .i64 a0, .slice A1 l1.length c1] (by rfl) rfl rfl (by (try simp only [List.map_toArray, List.map_cons, List.map_nil]); rfl) ?_
            refine (impl_spreadOf.calls a0 A1 l1.length c1 W1).mono ?_
            rintro e W2 ⟨b, rfl, hbs, hbm, hb3⟩
            refine ⟨_, rfl, ?_⟩
            have FPn := Aside0.mk (show w.heap.size ≤ p ∧ W2.heap[p]? = some (.cells #[.int .i64 0, .slice none 0 0, .map none] 61 (0, 0)) from ⟨FP.out.1, (hb3.block p (Array.getElem?_eq_some_iff.1 FP.out.2).1).trans FP.out.2⟩); clear FP; have FP := FPn; clear FPn
            have BWn := Aside0.mk (show Below w.heap.size w W2 from below_step BW.out hb3); clear BW; have BW := BWn; clear BWn
            clear hbs hbm hb3
            refine hK.out _ _ trivial (fun _ => ?_)
            clear hK K
            refine norm_ (a' := ?_) ?_ ?_
            rotate_left
            · show Act.put _ (some 35) _ = _
              simp only [Act.put, List.setIfInBounds_toArray, List.set_cons_zero, List.set_cons_succ, i64_w, i32_w]
              rfl
            refine two_ (i := 3) (j := 9) (Ni := some 36) (Nj := none) #[true, true, true, true, true, true, false, false, true, false, false, false] #[true, true, true, false, true, true, false, false, true, true, false, false] rfl rfl rfl rfl (two_of HT_.out (by kernel_rfl)) (by decide) (by decide) (fun K hK => ?_) (fun K hK => ?_)
            · refine value_ (v := (.map (some W2.heap.size))) (w1 := W2.alloc (.map #[] 0)) (by rfl) rfl ?_ ?_
              · have hmm := @run_makeMap Try.prog
                first | (go_simp; done) | (go_simp; rfl)
              obtain ⟨g, hg⟩ : ∃ g, g = W2.heap.size := ⟨_, rfl⟩
              have hnew := heap_alloc_new W2 (.map #[] 0)
              have hbl := below_alloc (Below.refl W2.heap.size W2) (.map #[] 0)
              obtain ⟨W3, hW3⟩ : ∃ z, z = W2.alloc (.map #[] 0) := ⟨_, rfl⟩
              rw [← hW3] at hnew hbl
              have FPn := Aside0.mk (show w.heap.size ≤ p ∧ W3.heap[p]? = some (.cells #[.int .i64 0, .slice none 0 0, .map none] 61 (0, 0)) from ⟨FP.out.1, (hbl.block p (Array.getElem?_eq_some_iff.1 FP.out.2).1).trans FP.out.2⟩); clear FP; have FP := FPn; clear FPn
              have FM := Aside0.mk (show w.heap.size ≤ g ∧ impl_MostInformed.Holds W3 g (fun x => False) from ⟨by rw [hg]; exact BW.out.size, by rw [hg]; exact impl_MostInformed.Holds.made hnew⟩)
              have BWn := Aside0.mk (show Below w.heap.size w W3 from below_step BW.out hbl); clear BW; have BW := BWn; clear BWn
              rw [← hg, ← hW3]
              clear hg hW3 hnew hbl
              refine hK.out _ _ trivial (fun _ => ?_)
              clear hK K
              refine norm_ (a' := ?_) ?_ ?_
              rotate_left
              · show Act.put _ (some 36) _ = _
                simp only [Act.put, List.setIfInBounds_toArray, List.set_cons_zero, List.set_cons_succ, i64_w, i32_w]
                rfl
              refine two_ (i := 6) (j := 9) (Ni := none) (Nj := none) #[true, true, true, true, true, true, true, false, true, false, false, false] #[true, true, true, true, true, true, false, false, true, true, false, false] rfl rfl rfl rfl (two_of HT_.out (by kernel_rfl)) (by decide) (by decide) (fun K hK => ?_) (fun K hK => ?_)
              · obtain ⟨W4, hrun, hadd, hgr⟩ := FM.out.2.add HU.out.1 HU.out.2
                refine skip_ (w1 := W4) (by rfl) rfl ?_ ?_
                · first | (go_simp; done) | (go_simp; rfl)
                have FPn := Aside0.mk (show w.heap.size ≤ p ∧ W4.heap[p]? = some (.cells #[.int .i64 0, .slice none 0 0, .map none] 61 (0, 0)) from ⟨FP.out.1, (hgr.block p (Array.getElem?_eq_some_iff.1 FP.out.2).1 (fun e => (FM.out.2.ne FP.out.2) (Option.some.inj e).symm)).trans FP.out.2⟩); clear FP; have FP := FPn; clear FPn
                have BWn := Aside0.mk (show Below w.heap.size w W4 from BW.out.trans ⟨hgr.os, hgr.tape, hgr.output, hgr.size, fun i hi => hgr.block i (Nat.lt_of_lt_of_le hi BW.out.size) (fun e => by have h1 := Option.some.inj e; have h2 := FM.out.1; omega)⟩); clear BW; have BW := BWn; clear BWn
                have FMn := Aside0.mk (show w.heap.size ≤ g ∧ impl_MostInformed.Holds W4 g (fun x => False ∨ x = SH) from ⟨FM.out.1, hadd⟩); clear FM; have FM := FMn; clear FMn
                clear hrun hadd hgr
                refine hK.out _ _ trivial (fun _ => ?_)
                clear hK K
                refine pure_ (i := 7) (N := some 39) (v := ?_) (a' := ?_) #[true, true, true, true, true, true, true, true, true, false, false, false] rfl rfl (any_of HT_.out (by kernel_rfl)) (fun _ _ _ h => h) (Or.inl ⟨by rfl, ?_⟩) ?_ ?_
                rotate_left
                · intro w'
                  go_simp
                  with_reducible rfl
                rotate_left
                · simp only [Act.put, List.setIfInBounds_toArray, List.set_cons_zero, List.set_cons_succ, i64_w, i32_w]
                  rfl
                refine one_ (i := 9) (N := none) #[true, true, true, true, true, true, true, true, true, true, false, false] rfl rfl (one_of HT_.out (by kernel_rfl)) (by decide) (fun K hK => ?_)
                have q0 := FP.out.2
                have q1 := blk_set q0 0 (.int .i64 a0)
                have q2 := blk_set q1 1 (.slice A1 l1.length c1)
                have q3 := blk_set q2 2 (.map (some b))
                refine skip_ (w1 := (((W4.setCell ⟨p, 0, none⟩ (.int .i64 a0)).setCell ⟨p, 1, none⟩ (.slice A1 l1.length c1)).setCell ⟨p, 2, none⟩ (.map (some b)))) (by rfl) rfl ?_ ?_
                · have x0 := (blk_cell q0 0).trans rfl
                  have x1 := (blk_cell q1 1).trans rfl
                  have x2 := (blk_cell q2 2).trans rfl
                  have y0 := blk_frozen q0 0
                  have y1 := blk_frozen q1 1
                  have y2 := blk_frozen q2 2
                  go_simp
                have BWn := Aside0.mk (show Below w.heap.size w (((W4.setCell ⟨p, 0, none⟩ (.int .i64 a0)).setCell ⟨p, 1, none⟩ (.slice A1 l1.length c1)).setCell ⟨p, 2, none⟩ (.map (some b))) from ((BW.out.setCell (p := ⟨p, 0, none⟩) FP.out.1 _).setCell (p := ⟨p, 1, none⟩) FP.out.1 _).setCell (p := ⟨p, 2, none⟩) FP.out.1 _); clear BW; have BW := BWn; clear BWn
                have hgp := FM.out.2.ne q0
                have FMn := Aside0.mk (show w.heap.size ≤ g ∧ impl_MostInformed.Holds (((W4.setCell ⟨p, 0, none⟩ (.int .i64 a0)).setCell ⟨p, 1, none⟩ (.slice A1 l1.length c1)).setCell ⟨p, 2, none⟩ (.map (some b))) g (fun x => False ∨ x = SH) from ⟨FM.out.1, ((FM.out.2.set hgp _).set hgp _).set hgp _⟩); clear FM; have FM := FMn; clear FMn
                clear hgp
                obtain ⟨W5, hW5⟩ : ∃ z, z = (((W4.setCell ⟨p, 0, none⟩ (.int .i64 a0)).setCell ⟨p, 1, none⟩ (.slice A1 l1.length c1)).setCell ⟨p, 2, none⟩ (.map (some b))) := ⟨_, rfl⟩
                rw [← hW5] at BW FM q3 ⊢
                have FPn := Aside0.mk (show w.heap.size ≤ p ∧ W5.heap[p]? = some (.cells #[.int .i64 a0, .slice A1 l1.length c1, .map (some b)] 61 (0, 0)) from ⟨FP.out.1, q3⟩); clear FP; have FP := FPn; clear FPn
                clear q0 q1 q2 q3 hW5
                refine hK.out _ _ trivial (fun _ => ?_)
                clear hK K
                exact hjoin ⟨b, g, p⟩ _ ⟨BW, FM, FP⟩
              · have q0 := FP.out.2
                have q1 := blk_set q0 0 (.int .i64 a0)
                have q2 := blk_set q1 1 (.slice A1 l1.length c1)
                have q3 := blk_set q2 2 (.map (some b))
                refine skip_ (w1 := (((W3.setCell ⟨p, 0, none⟩ (.int .i64 a0)).setCell ⟨p, 1, none⟩ (.slice A1 l1.length c1)).setCell ⟨p, 2, none⟩ (.map (some b)))) (by rfl) rfl ?_ ?_
                · have x0 := (blk_cell q0 0).trans rfl
                  have x1 := (blk_cell q1 1).trans rfl
                  have x2 := (blk_cell q2 2).trans rfl
                  have y0 := blk_frozen q0 0
                  have y1 := blk_frozen q1 1
                  have y2 := blk_frozen q2 2
                  go_simp
                have BWn := Aside0.mk (show Below w.heap.size w (((W3.setCell ⟨p, 0, none⟩ (.int .i64 a0)).setCell ⟨p, 1, none⟩ (.slice A1 l1.length c1)).setCell ⟨p, 2, none⟩ (.map (some b))) from ((BW.out.setCell (p := ⟨p, 0, none⟩) FP.out.1 _).setCell (p := ⟨p, 1, none⟩) FP.out.1 _).setCell (p := ⟨p, 2, none⟩) FP.out.1 _); clear BW; have BW := BWn; clear BWn
                have hgp := FM.out.2.ne q0
                have FMn := Aside0.mk (show w.heap.size ≤ g ∧ impl_MostInformed.Holds (((W3.setCell ⟨p, 0, none⟩ (.int .i64 a0)).setCell ⟨p, 1, none⟩ (.slice A1 l1.length c1)).setCell ⟨p, 2, none⟩ (.map (some b))) g (fun x => False) from ⟨FM.out.1, ((FM.out.2.set hgp _).set hgp _).set hgp _⟩); clear FM; have FM := FMn; clear FMn
                clear hgp
                obtain ⟨W4, hW4⟩ : ∃ z, z = (((W3.setCell ⟨p, 0, none⟩ (.int .i64 a0)).setCell ⟨p, 1, none⟩ (.slice A1 l1.length c1)).setCell ⟨p, 2, none⟩ (.map (some b))) := ⟨_, rfl⟩
                rw [← hW4] at BW FM q3 ⊢
                have FPn := Aside0.mk (show w.heap.size ≤ p ∧ W4.heap[p]? = some (.cells #[.int .i64 a0, .slice A1 l1.length c1, .map (some b)] 61 (0, 0)) from ⟨FP.out.1, q3⟩); clear FP; have FP := FPn; clear FPn
                clear q0 q1 q2 q3 hW4
                refine hK.out _ _ trivial (fun _ => ?_)
                clear hK K
                refine one_ (i := 6) (N := none) #[true, true, true, true, true, true, true, false, true, true, false, false] rfl rfl (one_of HT_.out (by kernel_rfl)) (by decide) (fun K hK => ?_)
                obtain ⟨W5, hrun, hadd, hgr⟩ := FM.out.2.add HU.out.1 HU.out.2
                refine skip_ (w1 := W5) (by rfl) rfl ?_ ?_
                · first | (go_simp; done) | (go_simp; rfl)
                have FPn := Aside0.mk (show w.heap.size ≤ p ∧ W5.heap[p]? = some (.cells #[.int .i64 a0, .slice A1 l1.length c1, .map (some b)] 61 (0, 0)) from ⟨FP.out.1, (hgr.block p (Array.getElem?_eq_some_iff.1 FP.out.2).1 (fun e => (FM.out.2.ne FP.out.2) (Option.some.inj e).symm)).trans FP.out.2⟩); clear FP; have FP := FPn; clear FPn
                have BWn := Aside0.mk (show Below w.heap.size w W5 from BW.out.trans ⟨hgr.os, hgr.tape, hgr.output, hgr.size, fun i hi => hgr.block i (Nat.lt_of_lt_of_le hi BW.out.size) (fun e => by have h1 := Option.some.inj e; have h2 := FM.out.1; omega)⟩); clear BW; have BW := BWn; clear BWn
                have FMn := Aside0.mk (show w.heap.size ≤ g ∧ impl_MostInformed.Holds W5 g (fun x => False ∨ x = SH) from ⟨FM.out.1, hadd⟩); clear FM; have FM := FMn; clear FMn
                clear hrun hadd hgr
                refine hK.out _ _ trivial (fun _ => ?_)
                clear hK K
                refine pure_ (i := 7) (N := some 39) (v := ?_) (a' := ?_) #[true, true, true, true, true, true, true, true, true, true, false, false] rfl rfl (any_of HT_.out (by kernel_rfl)) (fun _ _ _ h => h) (Or.inl ⟨by rfl, ?_⟩) ?_ ?_
                rotate_left
                · intro w'
                  go_simp
                  with_reducible rfl
                rotate_left
                · simp only [Act.put, List.setIfInBounds_toArray, List.set_cons_zero, List.set_cons_succ, i64_w, i32_w]
                  rfl
                exact hjoin ⟨b, g, p⟩ _ ⟨BW, FM, FP⟩
            · have q0 := FP.out.2
              have q1 := blk_set q0 0 (.int .i64 a0)
              have q2 := blk_set q1 1 (.slice A1 l1.length c1)
              have q3 := blk_set q2 2 (.map (some b))
              refine skip_ (w1 := (((W2.setCell ⟨p, 0, none⟩ (.int .i64 a0)).setCell ⟨p, 1, none⟩ (.slice A1 l1.length c1)).setCell ⟨p, 2, none⟩ (.map (some b)))) (by rfl) rfl ?_ ?_
              · have x0 := (blk_cell q0 0).trans rfl
                have x1 := (blk_cell q1 1).trans rfl
                have x2 := (blk_cell q2 2).trans rfl
                have y0 := blk_frozen q0 0
                have y1 := blk_frozen q1 1
                have y2 := blk_frozen q2 2
                go_simp
              have BWn := Aside0.mk (show Below w.heap.size w (((W2.setCell ⟨p, 0, none⟩ (.int .i64 a0)).setCell ⟨p, 1, none⟩ (.slice A1 l1.length c1)).setCell ⟨p, 2, none⟩ (.map (some b))) from ((BW.out.setCell (p := ⟨p, 0, none⟩) FP.out.1 _).setCell (p := ⟨p, 1, none⟩) FP.out.1 _).setCell (p := ⟨p, 2, none⟩) FP.out.1 _); clear BW; have BW := BWn; clear BWn
              obtain ⟨W3, hW3⟩ : ∃ z, z = (((W2.setCell ⟨p, 0, none⟩ (.int .i64 a0)).setCell ⟨p, 1, none⟩ (.slice A1 l1.length c1)).setCell ⟨p, 2, none⟩ (.map (some b))) := ⟨_, rfl⟩
              rw [← hW3] at BW  q3 ⊢
              have FPn := Aside0.mk (show w.heap.size ≤ p ∧ W3.heap[p]? = some (.cells #[.int .i64 a0, .slice A1 l1.length c1, .map (some b)] 61 (0, 0)) from ⟨FP.out.1, q3⟩); clear FP; have FP := FPn; clear FPn
              clear q0 q1 q2 q3 hW3
              refine hK.out _ _ trivial (fun _ => ?_)
              clear hK K
              refine one_ (i := 3) (N := some 36) #[true, true, true, true, true, true, false, false, true, true, false, false] rfl rfl (one_of HT_.out (by kernel_rfl)) (by decide) (fun K hK => ?_)
              refine value_ (v := (.map (some W3.heap.size))) (w1 := W3.alloc (.map #[] 0)) (by rfl) rfl ?_ ?_
              · have hmm := @run_makeMap Try.prog
                first | (go_simp; done) | (go_simp; rfl)
              obtain ⟨g, hg⟩ : ∃ g, g = W3.heap.size := ⟨_, rfl⟩
              have hnew := heap_alloc_new W3 (.map #[] 0)
              have hbl := below_alloc (Below.refl W3.heap.size W3) (.map #[] 0)
              obtain ⟨W4, hW4⟩ : ∃ z, z = W3.alloc (.map #[] 0) := ⟨_, rfl⟩
              rw [← hW4] at hnew hbl
              have FPn := Aside0.mk (show w.heap.size ≤ p ∧ W4.heap[p]? = some (.cells #[.int .i64 a0, .slice A1 l1.length c1, .map (some b)] 61 (0, 0)) from ⟨FP.out.1, (hbl.block p (Array.getElem?_eq_some_iff.1 FP.out.2).1).trans FP.out.2⟩); clear FP; have FP := FPn; clear FPn
              have FM := Aside0.mk (show w.heap.size ≤ g ∧ impl_MostInformed.Holds W4 g (fun x => False) from ⟨by rw [hg]; exact BW.out.size, by rw [hg]; exact impl_MostInformed.Holds.made hnew⟩)
              have BWn := Aside0.mk (show Below w.heap.size w W4 from below_step BW.out hbl); clear BW; have BW := BWn; clear BWn
              rw [← hg, ← hW4]
              clear hg hW4 hnew hbl
              refine hK.out _ _ trivial (fun _ => ?_)
              clear hK K
              refine norm_ (a' := ?_) ?_ ?_
              rotate_left
              · show Act.put _ (some 36) _ = _
                simp only [Act.put, List.setIfInBounds_toArray, List.set_cons_zero, List.set_cons_succ, i64_w, i32_w]
                rfl
              refine one_ (i := 6) (N := none) #[true, true, true, true, true, true, true, false, true, true, false, false] rfl rfl (one_of HT_.out (by kernel_rfl)) (by decide) (fun K hK => ?_)
              obtain ⟨W5, hrun, hadd, hgr⟩ := FM.out.2.add HU.out.1 HU.out.2
              refine skip_ (w1 := W5) (by rfl) rfl ?_ ?_
              · first | (go_simp; done) | (go_simp; rfl)
              have FPn := Aside0.mk (show w.heap.size ≤ p ∧ W5.heap[p]? = some (.cells #[.int .i64 a0, .slice A1 l1.length c1, .map (some b)] 61 (0, 0)) from ⟨FP.out.1, (hgr.block p (Array.getElem?_eq_some_iff.1 FP.out.2).1 (fun e => (FM.out.2.ne FP.out.2) (Option.some.inj e).symm)).trans FP.out.2⟩); clear FP; have FP := FPn; clear FPn
              have BWn := Aside0.mk (show Below w.heap.size w W5 from BW.out.trans ⟨hgr.os, hgr.tape, hgr.output, hgr.size, fun i hi => hgr.block i (Nat.lt_of_lt_of_le hi BW.out.size) (fun e => by have h1 := Option.some.inj e; have h2 := FM.out.1; omega)⟩); clear BW; have BW := BWn; clear BWn
              have FMn := Aside0.mk (show w.heap.size ≤ g ∧ impl_MostInformed.Holds W5 g (fun x => False ∨ x = SH) from ⟨FM.out.1, hadd⟩); clear FM; have FM := FMn; clear FMn
              clear hrun hadd hgr
              refine hK.out _ _ trivial (fun _ => ?_)
              clear hK K
              refine pure_ (i := 7) (N := some 39) (v := ?_) (a' := ?_) #[true, true, true, true, true, true, true, true, true, true, false, false] rfl rfl (any_of HT_.out (by kernel_rfl)) (fun _ _ _ h => h) (Or.inl ⟨by rfl, ?_⟩) ?_ ?_
              rotate_left
              · intro w'
                go_simp
                with_reducible rfl
              rotate_left
              · simp only [Act.put, List.setIfInBounds_toArray, List.set_cons_zero, List.set_cons_succ, i64_w, i32_w]
                rfl
              exact hjoin ⟨b, g, p⟩ _ ⟨BW, FM, FP⟩
          · refine value_ (v := (.map (some W1.heap.size))) (w1 := W1.alloc (.map #[] 0)) (by rfl) rfl ?_ ?_
            · have hmm := @run_makeMap Try.prog
              first | (go_simp; done) | (go_simp; rfl)
            obtain ⟨g, hg⟩ : ∃ g, g = W1.heap.size := ⟨_, rfl⟩
            have hnew := heap_alloc_new W1 (.map #[] 0)
            have hbl := below_alloc (Below.refl W1.heap.size W1) (.map #[] 0)
            obtain ⟨W2, hW2⟩ : ∃ z, z = W1.alloc (.map #[] 0) := ⟨_, rfl⟩
            rw [← hW2] at hnew hbl
            have FPn := Aside0.mk (show w.heap.size ≤ p ∧ W2.heap[p]? = some (.cells #[.int .i64 0, .slice none 0 0, .map none] 61 (0, 0)) from ⟨FP.out.1, (hbl.block p (Array.getElem?_eq_some_iff.1 FP.out.2).1).trans FP.out.2⟩); clear FP; have FP := FPn; clear FPn
            have FM := Aside0.mk (show w.heap.size ≤ g ∧ impl_MostInformed.Holds W2 g (fun x => False) from ⟨by rw [hg]; exact BW.out.size, by rw [hg]; exact impl_MostInformed.Holds.made hnew⟩)
            have BWn := Aside0.mk (show Below w.heap.size w W2 from below_step BW.out hbl); clear BW; have BW := BWn; clear BWn
            rw [← hg, ← hW2]
            clear hg hW2 hnew hbl
            refine hK.out _ _ trivial (fun _ => ?_)
            clear hK K
            refine norm_ (a' := ?_) ?_ ?_
            rotate_left
            · show Act.put _ (some 36) _ = _
              simp only [Act.put, List.setIfInBounds_toArray, List.set_cons_zero, List.set_cons_succ, i64_w, i32_w]
              rfl
            refine two_ (i := 2) (j := 6) (Ni := some 35) (Nj := none) #[true, true, true, true, true, true, false, false, true, false, false, false] #[true, true, false, true, true, true, true, false, true, false, false, false] rfl rfl rfl rfl (two_of HT_.out (by kernel_rfl)) (by decide) (by decide) (fun K hK => ?_) (fun K hK => ?_)
            · refine goes_ Try.func36 (by kernel_rfl) rfl #[.int .i64 a0, .slice A1 l1.length c1] (by rfl) rfl rfl (by (try simp only [List.map_toArray, List.map_cons, List.map_nil]); rfl) ?_
              refine (impl_spreadOf.calls a0 A1 l1.length c1 W2).mono ?_
              rintro e W3 ⟨b, rfl, hbs, hbm, hb3⟩
              refine ⟨_, rfl, ?_⟩
              have FMn := Aside0.mk (show w.heap.size ≤ g ∧ impl_MostInformed.Holds W3 g (fun x => False) from ⟨FM.out.1, FM.out.2.below hb3⟩); clear FM; have FM := FMn; clear FMn
              have FPn := Aside0.mk (show w.heap.size ≤ p ∧ W3.heap[p]? = some (.cells #[.int .i64 0, .slice none 0 0, .map none] 61 (0, 0)) from ⟨FP.out.1, (hb3.block p (Array.getElem?_eq_some_iff.1 FP.out.2).1).trans FP.out.2⟩); clear FP; have FP := FPn; clear FPn
              have BWn := Aside0.mk (show Below w.heap.size w W3 from below_step BW.out hb3); clear BW; have BW := BWn; clear BWn
              clear hbs hbm hb3
              refine hK.out _ _ trivial (fun _ => ?_)
              clear hK K
              refine norm_ (a' := ?_) ?_ ?_
              rotate_left
              · show Act.put _ (some 35) _ = _
                simp only [Act.put, List.setIfInBounds_toArray, List.set_cons_zero, List.set_cons_succ, i64_w, i32_w]
                rfl
              refine two_ (i := 6) (j := 9) (Ni := none) (Nj := none) #[true, true, true, true, true, true, true, false, true, false, false, false] #[true, true, true, true, true, true, false, false, true, true, false, false] rfl rfl rfl rfl (two_of HT_.out (by kernel_rfl)) (by decide) (by decide) (fun K hK => ?_) (fun K hK => ?_)
              · obtain ⟨W4, hrun, hadd, hgr⟩ := FM.out.2.add HU.out.1 HU.out.2
                refine skip_ (w1 := W4) (by rfl) rfl ?_ ?_
                · first | (go_simp; done) | (go_simp; rfl)
                have FPn := Aside0.mk (show w.heap.size ≤ p ∧ W4.heap[p]? = some (.cells #[.int .i64 0, .slice none 0 0, .map none] 61 (0, 0)) from ⟨FP.out.1, (hgr.block p (Array.getElem?_eq_some_iff.1 FP.out.2).1 (fun e => (FM.out.2.ne FP.out.2) (Option.some.inj e).symm)).trans FP.out.2⟩); clear FP; have FP := FPn; clear FPn
                have BWn := Aside0.mk (show Below w.heap.size w W4 from BW.out.trans ⟨hgr.os, hgr.tape, hgr.output, hgr.size, fun i hi => hgr.block i (Nat.lt_of_lt_of_le hi BW.out.size) (fun e => by have h1 := Option.some.inj e; have h2 := FM.out.1; omega)⟩); clear BW; have BW := BWn; clear BWn
                have FMn := Aside0.mk (show w.heap.size ≤ g ∧ impl_MostInformed.Holds W4 g (fun x => False ∨ x = SH) from ⟨FM.out.1, hadd⟩); clear FM; have FM := FMn; clear FMn
                clear hrun hadd hgr
                refine hK.out _ _ trivial (fun _ => ?_)
                clear hK K
                refine pure_ (i := 7) (N := some 39) (v := ?_) (a' := ?_) #[true, true, true, true, true, true, true, true, true, false, false, false] rfl rfl (any_of HT_.out (by kernel_rfl)) (fun _ _ _ h => h) (Or.inl ⟨by rfl, ?_⟩) ?_ ?_
                rotate_left
                · intro w'
                  go_simp
                  with_reducible rfl
                rotate_left
                · simp only [Act.put, List.setIfInBounds_toArray, List.set_cons_zero, List.set_cons_succ, i64_w, i32_w]
                  rfl
                refine one_ (i := 9) (N := none) #[true, true, true, true, true, true, true, true, true, true, false, false] rfl rfl (one_of HT_.out (by kernel_rfl)) (by decide) (fun K hK => ?_)
                have q0 := FP.out.2
                have q1 := blk_set q0 0 (.int .i64 a0)
                have q2 := blk_set q1 1 (.slice A1 l1.length c1)
                have q3 := blk_set q2 2 (.map (some b))
                refine skip_ (w1 := (((W4.setCell ⟨p, 0, none⟩ (.int .i64 a0)).setCell ⟨p, 1, none⟩ (.slice A1 l1.length c1)).setCell ⟨p, 2, none⟩ (.map (some b)))) (by rfl) rfl ?_ ?_
                · have x0 := (blk_cell q0 0).trans rfl
                  have x1 := (blk_cell q1 1).trans rfl
                  have x2 := (blk_cell q2 2).trans rfl
                  have y0 := blk_frozen q0 0
                  have y1 := blk_frozen q1 1
                  have y2 := blk_frozen q2 2
                  go_simp
                have BWn := Aside0.mk (show Below w.heap.size w (((W4.setCell ⟨p, 0, none⟩ (.int .i64 a0)).setCell ⟨p, 1, none⟩ (.slice A1 l1.length c1)).setCell ⟨p, 2, none⟩ (.map (some b))) from ((BW.out.setCell (p := ⟨p, 0, none⟩) FP.out.1 _).setCell (p := ⟨p, 1, none⟩) FP.out.1 _).setCell (p := ⟨p, 2, none⟩) FP.out.1 _); clear BW; have BW := BWn; clear BWn
                have hgp := FM.out.2.ne q0
                have FMn := Aside0.mk (show w.heap.size ≤ g ∧ impl_MostInformed.Holds (((W4.setCell ⟨p, 0, none⟩ (.int .i64 a0)).setCell ⟨p, 1, none⟩ (.slice A1 l1.length c1)).setCell ⟨p, 2, none⟩ (.map (some b))) g (fun x => False ∨ x = SH) from ⟨FM.out.1, ((FM.out.2.set hgp _).set hgp _).set hgp _⟩); clear FM; have FM := FMn; clear FMn
                clear hgp
                obtain ⟨W5, hW5⟩ : ∃ z, z = (((W4.setCell ⟨p, 0, none⟩ (.int .i64 a0)).setCell ⟨p, 1, none⟩ (.slice A1 l1.length c1)).setCell ⟨p, 2, none⟩ (.map (some b))) := ⟨_, rfl⟩
                rw [← hW5] at BW FM q3 ⊢
                have FPn := Aside0.mk (show w.heap.size ≤ p ∧ W5.heap[p]? = some (.cells #[.int .i64 a0, .slice A1 l1.length c1, .map (some b)] 61 (0, 0)) from ⟨FP.out.1, q3⟩); clear FP; have FP := FPn; clear FPn
                clear q0 q1 q2 q3 hW5
                refine hK.out _ _ trivial (fun _ => ?_)
                clear hK K
                exact hjoin ⟨b, g, p⟩ _ ⟨BW, FM, FP⟩
              · have q0 := FP.out.2
                have q1 := blk_set q0 0 (.int .i64 a0)
                have q2 := blk_set q1 1 (.slice A1 l1.length c1)
                have q3 := blk_set q2 2 (.map (some b))
                refine skip_ (w1 := (((W3.setCell ⟨p, 0, none⟩ (.int .i64 a0)).setCell ⟨p, 1, none⟩ (.slice A1 l1.length c1)).setCell ⟨p, 2, none⟩ (.map (some b)))) (by rfl) rfl ?_ ?_
                · have x0 := (blk_cell q0 0).trans rfl
                  have x1 := (blk_cell q1 1).trans rfl
                  have x2 := (blk_cell q2 2).trans rfl
                  have y0 := blk_frozen q0 0
                  have y1 := blk_frozen q1 1
                  have y2 := blk_frozen q2 2
                  go_simp
                have BWn := Aside0.mk (show Below w.heap.size w (((W3.setCell ⟨p, 0, none⟩ (.int .i64 a0)).setCell ⟨p, 1, none⟩ (.slice A1 l1.length c1)).setCell ⟨p, 2, none⟩ (.map (some b))) from ((BW.out.setCell (p := ⟨p, 0, none⟩) FP.out.1 _).setCell (p := ⟨p, 1, none⟩) FP.out.1 _).setCell (p := ⟨p, 2, none⟩) FP.out.1 _); clear BW; have BW := BWn; clear BWn
                have hgp := FM.out.2.ne q0
                have FMn := Aside0.mk (show w.heap.size ≤ g ∧ impl_MostInformed.Holds (((W3.setCell ⟨p, 0, none⟩ (.int .i64 a0)).setCell ⟨p, 1, none⟩ (.slice A1 l1.length c1)).setCell ⟨p, 2, none⟩ (.map (some b))) g (fun x => False) from ⟨FM.out.1, ((FM.out.2.set hgp _).set hgp _).set hgp _⟩); clear FM; have FM := FMn; clear FMn
                clear hgp
                obtain ⟨W4, hW4⟩ : ∃ z, z = (((W3.setCell ⟨p, 0, none⟩ (.int .i64 a0)).setCell ⟨p, 1, none⟩ (.slice A1 l1.length c1)).setCell ⟨p, 2, none⟩ (.map (some b))) := ⟨_, rfl⟩
                rw [← hW4] at BW FM q3 ⊢
                have FPn := Aside0.mk (show w.heap.size ≤ p ∧ W4.heap[p]? = some (.cells #[.int .i64 a0, .slice A1 l1.length c1, .map (some b)] 61 (0, 0)) from ⟨FP.out.1, q3⟩); clear FP; have FP := FPn; clear FPn
                clear q0 q1 q2 q3 hW4
                refine hK.out _ _ trivial (fun _ => ?_)
                clear hK K
                refine one_ (i := 6) (N := none) #[true, true, true, true, true, true, true, false, true, true, false, false] rfl rfl (one_of HT_.out (by kernel_rfl)) (by decide) (fun K hK => ?_)
                obtain ⟨W5, hrun, hadd, hgr⟩ := FM.out.2.add HU.out.1 HU.out.2
                refine skip_ (w1 := W5) (by rfl) rfl ?_ ?_
                · first | (go_simp; done) | (go_simp; rfl)
                have FPn := Aside0.mk (show w.heap.size ≤ p ∧ W5.heap[p]? = some (.cells #[.int .i64 a0, .slice A1 l1.length c1, .map (some b)] 61 (0, 0)) from ⟨FP.out.1, (hgr.block p (Array.getElem?_eq_some_iff.1 FP.out.2).1 (fun e => (FM.out.2.ne FP.out.2) (Option.some.inj e).symm)).trans FP.out.2⟩); clear FP; have FP := FPn; clear FPn
                have BWn := Aside0.mk (show Below w.heap.size w W5 from BW.out.trans ⟨hgr.os, hgr.tape, hgr.output, hgr.size, fun i hi => hgr.block i (Nat.lt_of_lt_of_le hi BW.out.size) (fun e => by have h1 := Option.some.inj e; have h2 := FM.out.1; omega)⟩); clear BW; have BW := BWn; clear BWn
                have FMn := Aside0.mk (show w.heap.size ≤ g ∧ impl_MostInformed.Holds W5 g (fun x => False ∨ x = SH) from ⟨FM.out.1, hadd⟩); clear FM; have FM := FMn; clear FMn
                clear hrun hadd hgr
                refine hK.out _ _ trivial (fun _ => ?_)
                clear hK K
                refine pure_ (i := 7) (N := some 39) (v := ?_) (a' := ?_) #[true, true, true, true, true, true, true, true, true, true, false, false] rfl rfl (any_of HT_.out (by kernel_rfl)) (fun _ _ _ h => h) (Or.inl ⟨by rfl, ?_⟩) ?_ ?_
                rotate_left
                · intro w'
                  go_simp
                  with_reducible rfl
                rotate_left
                · simp only [Act.put, List.setIfInBounds_toArray, List.set_cons_zero, List.set_cons_succ, i64_w, i32_w]
                  rfl
                exact hjoin ⟨b, g, p⟩ _ ⟨BW, FM, FP⟩
            · obtain ⟨W3, hrun, hadd, hgr⟩ := FM.out.2.add HU.out.1 HU.out.2
              refine skip_ (w1 := W3) (by rfl) rfl ?_ ?_
              · first | (go_simp; done) | (go_simp; rfl)
              have FPn := Aside0.mk (show w.heap.size ≤ p ∧ W3.heap[p]? = some (.cells #[.int .i64 0, .slice none 0 0, .map none] 61 (0, 0)) from ⟨FP.out.1, (hgr.block p (Array.getElem?_eq_some_iff.1 FP.out.2).1 (fun e => (FM.out.2.ne FP.out.2) (Option.some.inj e).symm)).trans FP.out.2⟩); clear FP; have FP := FPn; clear FPn
              have BWn := Aside0.mk (show Below w.heap.size w W3 from BW.out.trans ⟨hgr.os, hgr.tape, hgr.output, hgr.size, fun i hi => hgr.block i (Nat.lt_of_lt_of_le hi BW.out.size) (fun e => by have h1 := Option.some.inj e; have h2 := FM.out.1; omega)⟩); clear BW; have BW := BWn; clear BWn
              have FMn := Aside0.mk (show w.heap.size ≤ g ∧ impl_MostInformed.Holds W3 g (fun x => False ∨ x = SH) from ⟨FM.out.1, hadd⟩); clear FM; have FM := FMn; clear FMn
              clear hrun hadd hgr
              refine hK.out _ _ trivial (fun _ => ?_)
              clear hK K
              refine pure_ (i := 7) (N := some 39) (v := ?_) (a' := ?_) #[true, true, false, true, true, true, true, true, true, false, false, false] rfl rfl (any_of HT_.out (by kernel_rfl)) (fun _ _ _ h => h) (Or.inl ⟨by rfl, ?_⟩) ?_ ?_
              rotate_left
              · intro w'
                go_simp
                with_reducible rfl
              rotate_left
              · simp only [Act.put, List.setIfInBounds_toArray, List.set_cons_zero, List.set_cons_succ, i64_w, i32_w]
                rfl
              refine one_ (i := 2) (N := some 35) #[true, true, true, true, true, true, true, true, true, false, false, false] rfl rfl (one_of HT_.out (by kernel_rfl)) (by decide) (fun K hK => ?_)
              refine goes_ Try.func36 (by kernel_rfl) rfl #[.int .i64 a0, .slice A1 l1.length c1] (by rfl) rfl rfl (by (try simp only [List.map_toArray, List.map_cons, List.map_nil]); rfl) ?_
              refine (impl_spreadOf.calls a0 A1 l1.length c1 W3).mono ?_
              rintro e W4 ⟨b, rfl, hbs, hbm, hb3⟩
              refine ⟨_, rfl, ?_⟩
              have FMn := Aside0.mk (show w.heap.size ≤ g ∧ impl_MostInformed.Holds W4 g (fun x => False ∨ x = SH) from ⟨FM.out.1, FM.out.2.below hb3⟩); clear FM; have FM := FMn; clear FMn
              have FPn := Aside0.mk (show w.heap.size ≤ p ∧ W4.heap[p]? = some (.cells #[.int .i64 0, .slice none 0 0, .map none] 61 (0, 0)) from ⟨FP.out.1, (hb3.block p (Array.getElem?_eq_some_iff.1 FP.out.2).1).trans FP.out.2⟩); clear FP; have FP := FPn; clear FPn
              have BWn := Aside0.mk (show Below w.heap.size w W4 from below_step BW.out hb3); clear BW; have BW := BWn; clear BWn
              clear hbs hbm hb3
              refine hK.out _ _ trivial (fun _ => ?_)
              clear hK K
              refine norm_ (a' := ?_) ?_ ?_
              rotate_left
              · show Act.put _ (some 35) _ = _
                simp only [Act.put, List.setIfInBounds_toArray, List.set_cons_zero, List.set_cons_succ, i64_w, i32_w]
                rfl
              refine one_ (i := 9) (N := none) #[true, true, true, true, true, true, true, true, true, true, false, false] rfl rfl (one_of HT_.out (by kernel_rfl)) (by decide) (fun K hK => ?_)
              have q0 := FP.out.2
              have q1 := blk_set q0 0 (.int .i64 a0)
              have q2 := blk_set q1 1 (.slice A1 l1.length c1)
              have q3 := blk_set q2 2 (.map (some b))
              refine skip_ (w1 := (((W4.setCell ⟨p, 0, none⟩ (.int .i64 a0)).setCell ⟨p, 1, none⟩ (.slice A1 l1.length c1)).setCell ⟨p, 2, none⟩ (.map (some b)))) (by rfl) rfl ?_ ?_
              · have x0 := (blk_cell q0 0).trans rfl
                have x1 := (blk_cell q1 1).trans rfl
                have x2 := (blk_cell q2 2).trans rfl
                have y0 := blk_frozen q0 0
                have y1 := blk_frozen q1 1
                have y2 := blk_frozen q2 2
                go_simp
              have BWn := Aside0.mk (show Below w.heap.size w (((W4.setCell ⟨p, 0, none⟩ (.int .i64 a0)).setCell ⟨p, 1, none⟩ (.slice A1 l1.length c1)).setCell ⟨p, 2, none⟩ (.map (some b))) from ((BW.out.setCell (p := ⟨p, 0, none⟩) FP.out.1 _).setCell (p := ⟨p, 1, none⟩) FP.out.1 _).setCell (p := ⟨p, 2, none⟩) FP.out.1 _); clear BW; have BW := BWn; clear BWn
              have hgp := FM.out.2.ne q0
              have FMn := Aside0.mk (show w.heap.size ≤ g ∧ impl_MostInformed.Holds (((W4.setCell ⟨p, 0, none⟩ (.int .i64 a0)).setCell ⟨p, 1, none⟩ (.slice A1 l1.length c1)).setCell ⟨p, 2, none⟩ (.map (some b))) g (fun x => False ∨ x = SH) from ⟨FM.out.1, ((FM.out.2.set hgp _).set hgp _).set hgp _⟩); clear FM; have FM := FMn; clear FMn
              clear hgp
              obtain ⟨W5, hW5⟩ : ∃ z, z = (((W4.setCell ⟨p, 0, none⟩ (.int .i64 a0)).setCell ⟨p, 1, none⟩ (.slice A1 l1.length c1)).setCell ⟨p, 2, none⟩ (.map (some b))) := ⟨_, rfl⟩
              rw [← hW5] at BW FM q3 ⊢
              have FPn := Aside0.mk (show w.heap.size ≤ p ∧ W5.heap[p]? = some (.cells #[.int .i64 a0, .slice A1 l1.length c1, .map (some b)] 61 (0, 0)) from ⟨FP.out.1, q3⟩); clear FP; have FP := FPn; clear FPn
              clear q0 q1 q2 q3 hW5
              refine hK.out _ _ trivial (fun _ => ?_)
              clear hK K
              exact hjoin ⟨b, g, p⟩ _ ⟨BW, FM, FP⟩


end Go.Proofs.Ytoncbgjbkgdbaaa.PFnExactMostInformed
