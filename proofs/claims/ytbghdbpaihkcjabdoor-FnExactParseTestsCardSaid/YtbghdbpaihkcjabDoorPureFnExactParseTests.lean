/- For every text the program's ParseTests and the reference's agree: both read the tests that TestsText writes; no conditions. -/
import Derived.Test.YtbghdbpaihkcjabDoorPFnExactParseTestsx7
import Derived.Lib.FieldsP
import Derived.Laws.RangeString
import Derived.Lib.SplitLaws
set_option linter.unusedSimpArgs false
set_option linter.unusedVariables false
namespace Go.Proofs.YtbghdbpaihkcjabDoor.Pure
open Go.RowKit Go.Proofs.YtbghdbpaihkcjabDoor.PFnExactParseTests Go.Proofs.YtbghdbpaihkcjabDoorW.PrintWords Go.Proofs.YtbghdbpaihkcjabDoorW.PrintLast Go.Proofs.YtbghdbpaihkcjabDoorW.PrintMore

theorem w64 {x : Int} (h0 : -9223372036854775808 ≤ x) (h1 : x ≤ 9223372036854775807) : wrap64 x = x := by unfold wrap64; omega
theorem up64 {i n : Nat} (h : i < n) (hn : n ≤ 4611686018427387904) : wrap64 ((i : Int) + 1) = ((i + 1 : Nat) : Int) := by rw [w64 (by omega) (by omega)]; omega
theorem rd_lt {xs : List Int} {i : Nat} (h : i < xs.length) : rd xs (i : Int) = xs[i] := by unfold rd; simp [List.getD_eq_getElem?_getD, h]
/-- Are these tests of so many wires? -/
def tst (a : Int) (l : List (List Int)) : Bool := impl_AreTests.p_all a l
theorem l1Rising_l0 (l : List Int) (lo hi : Int) (hn : l.length ≤ 4000000) : ∀ (d i k : Nat), i + d = l.length → d < k → spec_l1Rising.l0 k l lo hi l (l.length : Int) (i : Int) = some (Aux2.p_up (l.drop (i - 1)) && (l.drop i).all fun y => decide (lo ≤ y) && decide (y ≤ hi))
  | 0, i, k, hi', hk => by
    obtain ⟨k, rfl⟩ : ∃ q, k = q + 1 := ⟨k - 1, by omega⟩
    have e : Aux2.p_up (l.drop (i - 1)) = true := by
      have : (l.drop (i - 1)).length ≤ 1 := by rw [List.length_drop]; omega
      cases hq : l.drop (i - 1) with
      | nil => rfl
      | cons x t =>
        rw [hq] at this
        cases t with
        | nil => rfl
        | cons y t => simp at this
    simp only [spec_l1Rising.l0]
    rw [if_neg (by omega), e, List.drop_eq_nil_of_le (by omega)]
    rfl
  | d + 1, i, k, hi', hk => by
    obtain ⟨k, rfl⟩ : ∃ q, k = q + 1 := ⟨k - 1, by omega⟩
    have ha : i < l.length := by omega
    have ih := l1Rising_l0 l lo hi hn d (i + 1) k (by omega) (by omega)
    simp only [spec_l1Rising.l0]
    rw [if_pos (by omega), if_pos (by omega), if_pos (by omega), rd_lt ha, up64 ha (by omega)]
    unfold spec_l1In.f
    rw [show i + 1 - 1 = i by omega] at ih
    have hall : ((l.drop i).all fun y => decide (lo ≤ y) && decide (y ≤ hi)) = ((decide (lo ≤ l[i]) && decide (l[i] ≤ hi)) && (l.drop (i + 1)).all fun y => decide (lo ≤ y) && decide (y ≤ hi)) := by
      rw [List.drop_eq_getElem_cons ha, List.all_cons]
    rw [hall]
    clear hall
    by_cases h1 : lo ≤ l[i]
    · rw [if_pos (show l[i] ≥ lo from h1)]
      simp only [Option.bind_some]
      by_cases h2 : l[i] ≤ hi
      · rw [if_pos (by simpa using h2)]
        by_cases h0 : i = 0
        · subst h0
          rw [if_neg (by omega), ih]
          simp [h1, h2]
        · have hb : i - 1 < l.length := by omega
          have e1 : wrap64 ((i : Int) - 1) = ((i - 1 : Nat) : Int) := by rw [w64 (by omega) (by omega)]; omega
          have hup : Aux2.p_up (l.drop (i - 1)) = (decide (l[i - 1] < l[i]) && Aux2.p_up (l.drop i)) := by
            rw [List.drop_eq_getElem_cons hb, show i - 1 + 1 = i by omega, List.drop_eq_getElem_cons ha]
            rfl
          rw [if_pos (by omega), e1, if_pos (by omega), if_pos (by omega), rd_lt hb, ih, hup]
          by_cases e : l[i - 1] ≥ l[i]
          · rw [if_pos e]
            simp [show ¬ l[i - 1] < l[i] by omega]
          · rw [if_neg e]
            simp [show l[i - 1] < l[i] by omega, h1, h2]
      · rw [if_neg (by simpa using h2)]
        simp [h2]
    · rw [if_neg (show ¬ l[i] ≥ lo from h1)]
      simp [h1]
theorem l1Rising_f (a : Int) (l : List Int) (hn : l.length ≤ 4000000) {k : Nat} (hk : l.length < k) : spec_l1Rising.f k l 0 (wrap64 (a - 1)) = some (impl_AreTests.p_rising a l) := by
  unfold spec_l1Rising.f impl_AreTests.p_rising
  have := l1Rising_l0 l 0 (wrap64 (a - 1)) hn l.length 0 k (by omega) hk
  simpa using this
theorem wiGood_l0 (a : Int) (l : List (List Int)) (hn : l.length ≤ 1048576) (ht : ∀ x ∈ l, x.length ≤ 1048576) : ∀ (d i k : Nat), i + d = l.length → d + 1048577 < k → spec_wiGood.l0 k a l (l.length : Int) (i : Int) = some ((l.drop i).all fun c => !impl_AreTests.p_bad a c)
  | 0, i, k, hi, hk => by
    obtain ⟨k, rfl⟩ : ∃ q, k = q + 1 := ⟨k - 1, by omega⟩
    simp only [spec_wiGood.l0]
    rw [if_neg (by omega), List.drop_eq_nil_of_le (by omega)]
    rfl
  | d + 1, i, k, hi, hk => by
    obtain ⟨k, rfl⟩ : ∃ q, k = q + 1 := ⟨k - 1, by omega⟩
    have ha : i < l.length := by omega
    have ih := wiGood_l0 a l hn ht d (i + 1) k (by omega) (by omega)
    have e : rd_L1 l (i : Int) = l[i] := by unfold rd_L1; simp [List.getD_eq_getElem?_getD, ha]
    have hlen := ht _ (List.getElem_mem ha)
    simp only [spec_wiGood.l0]
    rw [if_pos (by omega), if_pos (by omega), if_pos (by omega), e, up64 ha (by omega), ih, l1Rising_f a _ (by omega) (by omega), List.drop_eq_getElem_cons ha, List.all_cons]
    unfold impl_AreTests.p_bad
    by_cases h0 : l[i].length = 0
    · rw [if_pos (by omega)]
      simp [h0]
    · rw [if_neg (by omega)]
      simp only [Option.bind_some]
      cases impl_AreTests.p_rising a l[i] with
      | true => rw [if_pos rfl]; simp [h0]
      | false => simp [h0]
theorem wiGood_f (a : Int) (l : List (List Int)) (hn : l.length ≤ 1048576) (ht : ∀ x ∈ l, x.length ≤ 1048576) {k : Nat} (hk : 3000000 < k) : spec_wiGood.f k a l = some (tst a l) := by
  obtain ⟨k, rfl⟩ : ∃ q, k = q + 1 := ⟨k - 1, by omega⟩
  have h := wiGood_l0 a l hn ht l.length 0 k (by omega) (by omega)
  rw [List.drop_zero, show ((0 : Nat) : Int) = 0 from rfl] at h
  unfold spec_wiGood.f spec_wiWires.f spec_l1In.f tst impl_AreTests.p_all
  by_cases h1 : 1 ≤ a
  · rw [if_pos (show a ≥ 1 from h1)]
    simp only [Option.bind_some]
    by_cases h2 : a ≤ 10
    · rw [if_pos (by simpa using h2)]
      simp only [spec_wiGood.j0]
      by_cases h3 : l.length ≤ 12
      · rw [if_neg (by simp; omega), h]
        simp [h1, h2, h3]
      · rw [if_pos (by simp; omega)]
        simp [h3]
    · rw [if_neg (by simpa using h2)]
      simp only [spec_wiGood.j0]
      simp [h2]
  · rw [if_neg (show ¬ a ≥ 1 from h1)]
    simp only [Option.bind_some, Bool.false_eq_true, if_false, spec_wiGood.j0]
    simp [h1]
theorem areTests_f (a : Int) (l : List (List Int)) (ht : ∀ x ∈ l, x.length ≤ 1048576) : impl_AreTests.f a l = some (tst a l) := by
  unfold impl_AreTests.f
  rw [if_pos ht]
  rfl
/-- The set of these wires. -/
def setN (l : List Int) : Nat := l.foldl (fun n x => n ||| 2 ^ x.toNat) 0
theorem setN_go (l : List Int) (hl : ∀ x ∈ l, 0 ≤ x ∧ x ≤ 9) : ∀ n, n < 1024 → l.foldl (fun n x => n ||| 2 ^ x.toNat) n < 1024 := by
  induction l with
  | nil => intro n hn; exact hn
  | cons x l ih =>
    intro n hn
    refine ih (fun y hy => hl y (List.mem_cons_of_mem _ hy)) _ ?_
    have := hl x List.mem_cons_self
    exact Nat.or_lt_two_pow (n := 10) hn (Nat.pow_lt_pow_right (by decide) (by omega))
theorem setN_lt (l : List Int) (hl : ∀ x ∈ l, 0 ≤ x ∧ x ≤ 9) : setN l < 1024 := setN_go l hl 0 (by decide)
theorem setN_take (l : List Int) (i : Nat) (h : i < l.length) : (l.take (i + 1)).foldl (fun n x => n ||| 2 ^ x.toNat) 0 = setN (l.take i) ||| 2 ^ (l[i]).toNat := by
  rw [List.take_succ_eq_append_getElem h, List.foldl_append]
  rfl
theorem within_any (l : List Int) (lo hi : Int) : (!(l.any fun x => !impl_areWithin_1.in_ lo hi x)) = l.all fun y => decide (lo ≤ y) && decide (y ≤ hi) := by
  unfold impl_areWithin_1.in_
  induction l with
  | nil => rfl
  | cons x l ih => simp only [List.any_cons, List.all_cons, Bool.not_or, Bool.not_not, ih]
theorem p_up_drop (l : List Int) (i : Nat) (h1 : 1 ≤ i) (h : i < l.length) : Aux2.p_up (l.drop (i - 1)) = (decide (l[i - 1] < l[i]) && Aux2.p_up (l.drop i)) := by
  rw [List.drop_eq_getElem_cons (show i - 1 < l.length by omega), show i - 1 + 1 = i by omega, List.drop_eq_getElem_cons h]
  rfl
theorem isRising_l0 (a : Int) (l : List Int) (hn : l.length ≤ 4000000) : ∀ (d i k : Nat), i + d = l.length → 1 ≤ i → d < k → impl_isRising.l0 k a l (i : Int) = some (Aux2.p_up (l.drop (i - 1)) && l.all fun y => decide (0 ≤ y) && decide (y ≤ wrap64 (a - 1)))
  | 0, i, k, hi', h1, hk => by
    obtain ⟨k, rfl⟩ : ∃ q, k = q + 1 := ⟨k - 1, by omega⟩
    have e : Aux2.p_up (l.drop (i - 1)) = true := by
      have : (l.drop (i - 1)).length ≤ 1 := by rw [List.length_drop]; omega
      cases hq : l.drop (i - 1) with
      | nil => rfl
      | cons x t =>
        rw [hq] at this
        cases t with
        | nil => rfl
        | cons y t => simp at this
    simp only [impl_isRising.l0]
    rw [if_neg (by omega), e]
    unfold impl_areWithin.f impl_areWithin_1.f
    simp only [Option.bind_some, within_any]
    rfl
  | d + 1, i, k, hi', h1, hk => by
    obtain ⟨k, rfl⟩ : ∃ q, k = q + 1 := ⟨k - 1, by omega⟩
    have ha : i < l.length := by omega
    have hb : i - 1 < l.length := by omega
    have ih := isRising_l0 a l hn d (i + 1) k (by omega) (by omega) (by omega)
    rw [show i + 1 - 1 = i by omega] at ih
    have e1 : wrap64 ((i : Int) - 1) = ((i - 1 : Nat) : Int) := by rw [w64 (by omega) (by omega)]; omega
    simp only [impl_isRising.l0]
    rw [if_pos (by omega), if_pos (by omega), e1, if_pos (by omega), if_pos (by omega), rd_lt ha, rd_lt hb, up64 ha (by omega), ih, p_up_drop l i h1 ha]
    by_cases e : l[i] ≤ l[i - 1]
    · rw [if_pos e]
      simp [show ¬ l[i - 1] < l[i] by omega]
    · rw [if_neg e]
      simp [show l[i - 1] < l[i] by omega]
theorem isRising_f (a : Int) (l : List Int) (hn : l.length ≤ 4000000) {k : Nat} (hk : l.length + 1 < k) : impl_isRising.f k a l = some (impl_AreTests.p_rising a l) := by
  unfold impl_isRising.f impl_AreTests.p_rising
  by_cases h : l.length = 0
  · have : l = [] := List.length_eq_zero_iff.1 h
    subst this
    obtain ⟨k, rfl⟩ : ∃ q, k = q + 1 := ⟨k - 1, by omega⟩
    simp only [impl_isRising.l0]
    rw [if_neg (by simp)]
    unfold impl_areWithin.f impl_areWithin_1.f
    rfl
  · have := isRising_l0 a l hn (l.length - 1) 1 k (by omega) (by omega) (by omega)
    rw [show ((1 : Nat) : Int) = 1 from rfl] at this
    rw [this]
    rfl
/-- Wires that rise below ten wires. -/
theorem rising_wires (a : Int) (l : List Int) (h1 : 1 ≤ a) (h2 : a ≤ 10) (h : impl_AreTests.p_rising a l = true) : ∀ x ∈ l, 0 ≤ x ∧ x ≤ 9 := by
  intro x hx
  unfold impl_AreTests.p_rising at h
  rw [Bool.and_eq_true, List.all_eq_true] at h
  have := h.2 x hx
  rw [Bool.and_eq_true, decide_eq_true_eq, decide_eq_true_eq, w64 (by omega) (by omega)] at this
  omega
theorem tst_cases {a : Int} {l : List (List Int)} (h : tst a l = true) : 1 ≤ a ∧ a ≤ 10 ∧ l.length ≤ 12 ∧ ∀ c ∈ l, 1 ≤ c.length ∧ impl_AreTests.p_rising a c = true := by
  unfold tst impl_AreTests.p_all at h
  simp only [Bool.and_eq_true, decide_eq_true_eq, List.all_eq_true] at h
  refine ⟨h.1.1, h.1.2, h.2.1, fun c hc => ?_⟩
  have := h.2.2 c hc
  unfold impl_AreTests.p_bad at this
  simp only [Bool.not_or, Bool.not_not, Bool.and_eq_true, Bool.not_eq_true', decide_eq_false_iff_not] at this
  exact ⟨by omega, this.2⟩
/-- All rising lists of so many wires, from a wire on, in order. -/
def lst (w : Nat) : Nat → Nat → List (List Int)
  | 0, _ => [[]]
  | m + 1, f => (List.range' f (w - f)).flatMap fun x => (lst w m (x + 1)).map (fun t => (x : Int) :: t)
/-- A list that rises, from a number on, below a bound. -/
def Up (w : Int) : Int → List Int → Prop
  | _, [] => True
  | f, x :: t => f ≤ x ∧ x < w ∧ Up w (x + 1) t
theorem mem_lst (w : Nat) : ∀ (m f : Nat) (t : List Int), t ∈ lst w m f ↔ t.length = m ∧ Up w f t
  | 0, f, t => by
    cases t with
    | nil => simp [lst, Up]
    | cons x t => simp [lst]
  | m + 1, f, t => by
    simp only [lst, List.mem_flatMap, List.mem_range'_1, List.mem_map]
    constructor
    · rintro ⟨x, hx, u, hu, rfl⟩
      obtain ⟨h1, h2⟩ := (mem_lst w m (x + 1) u).1 hu
      refine ⟨by simp [h1], by omega, by omega, ?_⟩
      exact h2
    · cases t with
      | nil => rintro ⟨h, _⟩; simp at h
      | cons x t =>
        rintro ⟨h, h1, h2, h3⟩
        refine ⟨x.toNat, by omega, t, (mem_lst w m _ t).2 ⟨by simpa using h, ?_⟩, by rw [Int.toNat_of_nonneg (by omega)]⟩
        rw [show ((x.toNat + 1 : Nat) : Int) = x + 1 by omega]
        exact h3
/-- The order of lists, number by number. -/
def lexlt : List Int → List Int → Bool
  | [], [] => false
  | [], _ :: _ => true
  | _ :: _, [] => false
  | x :: s, y :: t => if x < y then true else if y < x then false else lexlt s t
theorem lexlt_cons (x : Int) (s t : List Int) : lexlt (x :: s) (x :: t) = lexlt s t := by simp [lexlt]
theorem lst_sorted (w : Nat) : ∀ (m f : Nat), (lst w m f).Pairwise fun s t => lexlt s t = true
  | 0, f => by simp [lst]
  | m + 1, f => by
    simp only [lst, List.pairwise_flatMap]
    refine ⟨fun x _ => ?_, ?_⟩
    · rw [List.pairwise_map]
      refine (lst_sorted w m (x + 1)).imp ?_
      intro s t h
      rw [lexlt_cons]; exact h
    · refine List.Pairwise.imp ?_ (List.pairwise_lt_range' (s := f) (n := w - f) (step := 1))
      intro x y hxy s hs t ht
      obtain ⟨s, _, rfl⟩ := List.mem_map.1 hs
      obtain ⟨t, _, rfl⟩ := List.mem_map.1 ht
      simp only [lexlt]
      rw [if_pos (by omega)]
theorem lexlt_irrefl : ∀ s, lexlt s s = false
  | [] => rfl
  | x :: s => by rw [lexlt_cons]; exact lexlt_irrefl s
/-- All rising lists of at most so many wires, in order. -/
def alls (w m : Nat) : List (List Int) := (List.range (m + 1)).flatMap fun c => lst w c 0
theorem mem_alls (w m : Nat) (t : List Int) : t ∈ alls w m ↔ t.length ≤ m ∧ Up w 0 t := by
  unfold alls
  simp only [List.mem_flatMap, List.mem_range, mem_lst]
  constructor
  · rintro ⟨c, hc, h1, h2⟩; exact ⟨by omega, h2⟩
  · rintro ⟨h1, h2⟩; exact ⟨_, by omega, rfl, h2⟩
/-- Lists by how many numbers, then number by number. -/
def setlt (s t : List Int) : Bool := decide (s.length < t.length) || (decide (s.length = t.length) && lexlt s t)
theorem alls_sorted (w m : Nat) : (alls w m).Pairwise fun s t => setlt s t = true := by
  unfold alls
  rw [List.pairwise_flatMap]
  refine ⟨fun c _ => ?_, ?_⟩
  · refine List.Pairwise.imp_of_mem ?_ (lst_sorted w c 0)
    intro s t hs ht h
    have h1 := ((mem_lst w c 0 s).1 hs).1
    have h2 := ((mem_lst w c 0 t).1 ht).1
    simp [setlt, h1, h2, h]
  · refine List.Pairwise.imp ?_ (List.pairwise_lt_range (n := m + 1))
    intro x y hxy s hs t ht
    have h1 := ((mem_lst w x 0 s).1 hs).1
    have h2 := ((mem_lst w y 0 t).1 ht).1
    simp [setlt, h1, h2, hxy]
theorem alls_nodup (w m : Nat) : (alls w m).Nodup := by
  refine (alls_sorted w m).imp ?_
  intro s t h e
  subst e
  simp [setlt, lexlt_irrefl] at h
/-- Two lists that rise and hold the same numbers are the same. -/
theorem Up.lt {w : Int} : ∀ {f : Int} {t : List Int}, Up w f t → ∀ x ∈ t, f ≤ x ∧ x < w
  | _, [], _ => by simp
  | f, y :: t, h => by
    intro x hx
    rcases List.mem_cons.1 hx with rfl | hx
    · exact ⟨h.1, h.2.1⟩
    · have := Up.lt h.2.2 x hx
      have := h.1
      omega
theorem Up.ext {w : Int} : ∀ {f : Int} {s t : List Int}, Up w f s → Up w f t → (∀ x, x ∈ s ↔ x ∈ t) → s = t
  | _, [], [], _, _, _ => rfl
  | _, [], y :: t, _, _, h => by have := (h y).2 (by simp); simp at this
  | _, x :: s, [], _, _, h => by have := (h x).1 (by simp); simp at this
  | f, x :: s, y :: t, hs, ht, h => by
    have e : x = y := by
      have h1 := (h x).1 (by simp)
      have h2 := (h y).2 (by simp)
      rcases List.mem_cons.1 h1 with e | h1
      · exact e
      rcases List.mem_cons.1 h2 with e | h2
      · exact e.symm
      have := (Up.lt ht.2.2 x h1).1
      have := (Up.lt hs.2.2 y h2).1
      omega
    subst e
    rw [Up.ext hs.2.2 ht.2.2 ?_]
    intro z
    have hz := h z
    simp only [List.mem_cons] at hz
    constructor
    · intro hm
      rcases hz.1 (.inr hm) with e | e
      · have := (Up.lt hs.2.2 z hm).1; omega
      · exact e
    · intro hm
      rcases hz.2 (.inr hm) with e | e
      · have := (Up.lt ht.2.2 z hm).1; omega
      · exact e
/-- The numbers of the bits of a set. -/
def bitsOf (s : Nat) : List Int := ((List.range 16).filter fun i => s.testBit i).map fun (i : Nat) => (i : Int)
theorem mem_bitsOf (s : Nat) (x : Int) : x ∈ bitsOf s ↔ 0 ≤ x ∧ x < 16 ∧ s.testBit x.toNat = true := by
  unfold bitsOf
  simp only [List.mem_map, List.mem_filter, List.mem_range]
  constructor
  · rintro ⟨i, ⟨h1, h2⟩, rfl⟩
    exact ⟨by omega, by omega, by simpa using h2⟩
  · rintro ⟨h0, h1, h2⟩
    exact ⟨x.toNat, ⟨by omega, h2⟩, by omega⟩
theorem up_map (w : Int) : ∀ (l : List Nat) (f : Nat), l.Pairwise (· < ·) → (∀ x ∈ l, f ≤ x ∧ (x : Int) < w) → Up w f (l.map fun (i : Nat) => (i : Int))
  | [], _, _, _ => trivial
  | x :: l, f, hp, hb => by
    obtain ⟨h1, h2⟩ := List.pairwise_cons.1 hp
    have hx := hb x (by simp)
    refine ⟨by simpa using hx.1, hx.2, ?_⟩
    have := up_map w l (x + 1) h2 (fun y hy => ⟨h1 y hy, (hb y (by simp [hy])).2⟩)
    simpa using this
theorem bitsOf_up (s w : Nat) (hs : s < 2 ^ w) (hw : w ≤ 16) : Up (w : Int) 0 (bitsOf s) := by
  have := up_map (w : Int) ((List.range 16).filter fun i => s.testBit i) 0 (List.pairwise_lt_range.filter _) ?_
  · exact this
  · intro x hx
    simp only [List.mem_filter, List.mem_range] at hx
    refine ⟨Nat.zero_le _, ?_⟩
    have hx2 := Nat.ge_two_pow_of_testBit hx.2
    have : 2 ^ x < 2 ^ w := by omega
    have := (Nat.pow_lt_pow_iff_right (by decide : 1 < 2)).1 this
    omega
theorem testBit_fold : ∀ (l : List Int) (n i : Nat), (∀ x ∈ l, 0 ≤ x) → ((l.foldl (fun n x => n ||| 2 ^ x.toNat) n).testBit i = true ↔ n.testBit i = true ∨ (i : Int) ∈ l)
  | [], n, i, _ => by simp
  | x :: l, n, i, h => by
    rw [List.foldl_cons, testBit_fold l _ i (fun y hy => h y (by simp [hy])), Nat.testBit_or, Nat.testBit_two_pow]
    have := h x (by simp)
    simp only [Bool.or_eq_true, decide_eq_true_eq, List.mem_cons]
    constructor
    · rintro ((h | h) | h)
      · exact .inl h
      · exact .inr (.inl (by omega))
      · exact .inr (.inr h)
    · rintro (h | h | h)
      · exact .inl (.inl h)
      · exact .inl (.inr (by omega))
      · exact .inr h
theorem testBit_setN (l : List Int) (h : ∀ x ∈ l, 0 ≤ x) (i : Nat) : (setN l).testBit i = true ↔ (i : Int) ∈ l := by
  unfold setN
  rw [testBit_fold l 0 i h]
  simp
theorem bitsOf_setN (l : List Int) (h : Up 16 0 l) : bitsOf (setN l) = l := by
  have hl : ∀ x ∈ l, 0 ≤ x := fun x hx => (Up.lt h x hx).1
  have hb : setN l < 2 ^ 16 := by
    apply Nat.lt_pow_two_of_testBit
    intro i hi
    cases hq : (setN l).testBit i with
    | false => rfl
    | true => have := (Up.lt h _ ((testBit_setN l hl i).1 hq)).2; omega
  refine Up.ext (bitsOf_up _ 16 hb (by omega)) h ?_
  intro x
  rw [mem_bitsOf]
  constructor
  · rintro ⟨h0, h1, h2⟩
    have := (testBit_setN l hl _).1 h2
    rwa [Int.toNat_of_nonneg h0] at this
  · intro hx
    have hx' := Up.lt h x hx
    exact ⟨hx'.1, hx'.2, (testBit_setN l hl _).2 (by rwa [Int.toNat_of_nonneg hx'.1])⟩
theorem setN_bitsOf (s : Nat) (hs : s < 2 ^ 16) : setN (bitsOf s) = s := by
  apply Nat.eq_of_testBit_eq
  intro i
  have hl : ∀ x ∈ bitsOf s, 0 ≤ x := fun x hx => ((mem_bitsOf s x).1 hx).1
  have e := testBit_setN (bitsOf s) hl i
  rw [mem_bitsOf] at e
  cases hq : s.testBit i with
  | true =>
    refine e.2 ⟨by omega, ?_, by simpa using hq⟩
    have hx2 := Nat.ge_two_pow_of_testBit hq
    have : 2 ^ i < 2 ^ 16 := by omega
    have := (Nat.pow_lt_pow_iff_right (by decide : 1 < 2)).1 this
    omega
  | false =>
    cases hr : (setN (bitsOf s)).testBit i with
    | false => rfl
    | true => have := (e.1 hr).2.2; rw [show ((i : Nat) : Int).toNat = i from rfl, hq] at this; cases this
theorem Up.mono {w v : Int} (hv : w ≤ v) : ∀ {f : Int} {t : List Int}, Up w f t → Up v f t
  | _, [], _ => trivial
  | _, _ :: _, h => ⟨h.1, by have := h.2.1; omega, Up.mono hv h.2.2⟩
theorem setN_inj {s t : List Int} (hs : Up 16 0 s) (ht : Up 16 0 t) (e : setN s = setN t) : s = t := by rw [← bitsOf_setN s hs, ← bitsOf_setN t ht, e]
theorem setN_up_lt (w : Nat) (hw : w ≤ 16) {l : List Int} (h : Up w 0 l) : setN l < 2 ^ w := by
  have hl : ∀ x ∈ l, 0 ≤ x := fun x hx => (Up.lt h x hx).1
  apply Nat.lt_pow_two_of_testBit
  intro i hi
  cases hq : (setN l).testBit i with
  | false => rfl
  | true => have := (Up.lt h _ ((testBit_setN l hl i).1 hq)).2; omega
/-- The sets of at most so many wires, as numbers. -/
def sets (w m : Nat) : List Nat := (List.range (2 ^ w)).filter fun s => decide ((bitsOf s).length ≤ m)
theorem mem_sets (w m s : Nat) (hw : w ≤ 16) : s ∈ sets w m ↔ s ∈ (alls w m).map setN := by
  unfold sets
  simp only [List.mem_filter, List.mem_range, List.mem_map, mem_alls, decide_eq_true_eq]
  constructor
  · rintro ⟨h1, h2⟩
    exact ⟨bitsOf s, ⟨h2, bitsOf_up s w h1 hw⟩, setN_bitsOf s (Nat.lt_of_lt_of_le h1 (Nat.pow_le_pow_right (by decide) hw))⟩
  · rintro ⟨t, ⟨h1, h2⟩, rfl⟩
    exact ⟨setN_up_lt w hw h2, by rw [bitsOf_setN t (h2.mono (by omega))]; exact h1⟩
theorem sets_nodup (w m : Nat) : (sets w m).Nodup := List.Pairwise.filter _ List.nodup_range
theorem alls_sets_nodup (w m : Nat) (hw : w ≤ 16) : ((alls w m).map setN).Nodup := by
  unfold List.Nodup
  rw [List.pairwise_map]
  refine List.Pairwise.imp_of_mem ?_ (alls_nodup w m)
  intro s t hs ht h e
  have h1 := ((mem_alls w m s).1 hs).2
  have h2 := ((mem_alls w m t).1 ht).2
  exact h (setN_inj (h1.mono (by omega)) (h2.mono (by omega)) e)
theorem sets_perm (w m : Nat) (hw : w ≤ 16) : (sets w m).Perm ((alls w m).map setN) :=
  (List.perm_ext_iff_of_nodup (sets_nodup w m) (alls_sets_nodup w m hw)).2 fun s => mem_sets w m s hw
theorem up_of (w : Int) : ∀ (l : List Int) (f : Int), Aux2.p_up l = true → (∀ x, l.head? = some x → f ≤ x) → (∀ x ∈ l, x < w) → Up w f l
  | [], _, _, _, _ => trivial
  | [x], f, _, hf, hw => ⟨hf x rfl, hw x (by simp), trivial⟩
  | x :: y :: t, f, h, hf, hw => by
    have h' : (decide (x < y) && Aux2.p_up (y :: t)) = true := h
    rw [Bool.and_eq_true, decide_eq_true_eq] at h'
    refine ⟨hf x rfl, hw x (by simp), up_of w (y :: t) (x + 1) h'.2 ?_ (fun z hz => hw z (by simp at hz ⊢; exact .inr hz))⟩
    intro z hz
    simp at hz
    omega
theorem rising_up (a : Int) (l : List Int) (h1 : 1 ≤ a) (h2 : a ≤ 10) (h : impl_AreTests.p_rising a l = true) : Up a 0 l := by
  unfold impl_AreTests.p_rising at h
  rw [Bool.and_eq_true, List.all_eq_true] at h
  have hx : ∀ x ∈ l, 0 ≤ x ∧ x < a := fun x hx => by
    have := h.2 x hx
    rw [Bool.and_eq_true, decide_eq_true_eq, decide_eq_true_eq, w64 (by omega) (by omega)] at this
    omega
  refine up_of a l 0 h.1 (fun x hh => (hx x (List.mem_of_mem_head? hh)).1) (fun x hh => (hx x hh).2)
theorem up_len {w : Int} : ∀ {f : Int} {t : List Int}, Up w f t → (t.length : Int) ≤ if f ≤ w then w - f else 0
  | f, [], _ => by split <;> simp; omega
  | f, x :: t, h => by
    have := up_len h.2.2
    have h1 := h.1
    have h2 := h.2.1
    rw [if_pos (by omega)] at this
    rw [if_pos (by omega)]
    simp
    omega
theorem rising_len (a : Int) (l : List Int) (h1 : 1 ≤ a) (h2 : a ≤ 10) (h : impl_AreTests.p_rising a l = true) : l.length ≤ 10 := by
  have := up_len (rising_up a l h1 h2 h)
  rw [if_pos (by omega)] at this
  omega
def ba (L : List UInt8) : ByteArray := ⟨L.toArray⟩
theorem ba_app (L M : List UInt8) : ba L ++ ba M = ba (L ++ M) := by
  apply ByteArray.ext
  apply Array.toList_inj.1
  simp [ba, ByteArray.data_append]
theorem ba_size (L : List UInt8) : (ba L).size = L.length := by simp [ba, ByteArray.size]
theorem ba_list (L : List UInt8) : (ba L).data.toList = L := by simp [ba]
/-- A digit. -/
def dg (x : Int) : List UInt8 := [UInt8.ofNat (48 + x.toNat)]
/-- Texts, each behind a sign. -/
def tl (s : UInt8) (xs : List (List UInt8)) : List UInt8 := (xs.map (fun y => s :: y)).flatten
/-- Texts with a sign between them. -/
def jn (s : UInt8) : List (List UInt8) → List UInt8
  | [] => []
  | x :: r => x ++ tl s r
theorem join_jn (s : UInt8) : ∀ xs : List (List UInt8), Lib.join xs [s] = jn s xs
  | [] => rfl
  | [x] => by simp [Lib.join, jn, tl, List.intercalate, List.intersperse]
  | x :: y :: r => by
    have ih := join_jn s (y :: r)
    have e : Lib.join (x :: y :: r) [s] = x ++ ([s] ++ Lib.join (y :: r) [s]) := by
      simp [Lib.join, List.intercalate, List.intersperse]
    rw [e, ih]
    simp [jn, tl]
theorem tl_len (s : UInt8) (B : Nat) : ∀ xs : List (List UInt8), (∀ y ∈ xs, y.length ≤ B) → (tl s xs).length ≤ (B + 1) * xs.length
  | [], _ => by simp [tl]
  | x :: r, h => by
    have h1 := h x (by simp)
    have h2 := tl_len s B r (fun y hy => h y (by simp [hy]))
    have e : (tl s (x :: r)).length = 1 + x.length + (tl s r).length := by simp [tl]; omega
    rw [e, List.length_cons, Nat.mul_add]
    omega
theorem jn_len (s : UInt8) (B : Nat) (xs : List (List UInt8)) (h : ∀ y ∈ xs, y.length ≤ B) : (jn s xs).length ≤ (B + 1) * xs.length := by
  cases xs with
  | nil => simp [jn]
  | cons x r =>
    have h1 := h x (by simp)
    have h2 := tl_len s B r (fun y hy => h y (by simp [hy]))
    simp only [jn, List.length_append, List.length_cons, Nat.mul_add]
    omega
theorem num_f (x : Int) (h0 : 0 ≤ x) (h1 : x ≤ 9) {k : Nat} (hk : 0 < k) : spec_l1Num.f k x = some (ba (dg x)) := by
  obtain ⟨k, rfl⟩ : ∃ q, k = q + 1 := ⟨k - 1, by omega⟩
  unfold spec_l1Num.f
  rw [if_pos (by omega)]
  have e : wrap64 (48 + x) % 256 = 48 + x := by rw [w64 (by omega) (by omega)]; omega
  rw [e]
  congr 1
  apply ByteArray.ext
  apply Array.toList_inj.1
  simp only [strOfNums, ba, dg, List.map_cons, List.map_nil]
  rw [show (48 + x).toNat = 48 + x.toNat by omega]
theorem dec_small (n : Nat) (h : n < 10) : Lib.decDigits n = [UInt8.ofNat (48 + n)] := by
  rw [Lib.decDigits, dif_pos h]
theorem itoa_f (x : Int) (h0 : 0 ≤ x) (h1 : x ≤ 9) : strconv_Itoa.f x = some (ba (dg x)) := by
  unfold strconv_Itoa.f
  rw [if_pos (by omega), dec_small _ (by omega)]
  rfl
theorem join_f (xs : List (List UInt8)) (s : UInt8) (hn : xs.length ≤ 1000) (hl : ∀ y ∈ xs, y.length ≤ 1000) : strings_Join.f (xs.map ba) (ba [s]) = some (ba (jn s xs), xs.map ba) := by
  have e : strings_Join.p_join (xs.map ba) (ba [s]) = ba (jn s xs) := by
    unfold strings_Join.p_join
    rw [ba_list, List.map_map, show ((fun x : ByteArray => x.data.toList) ∘ ba) = id by funext L; exact ba_list L, List.map_id, join_jn]
    rfl
  have hj := jn_len s 1000 xs hl
  have hm : 1001 * xs.length ≤ 1001 * 1000 := Nat.mul_le_mul_left _ hn
  unfold strings_Join.f
  rw [e, if_pos ⟨by rw [List.length_map]; omega, by rw [ba_size]; omega⟩]
theorem joined_l0 (row : List Int) (hr : row.length ≤ 500) (hx : ∀ x ∈ row, 0 ≤ x ∧ x ≤ 9) : ∀ (d i k : Nat), i + d = row.length → d < k → impl_joined.l0 k (ba [43]) (((row.take i).map dg).map ba) row (row.length : Int) (i : Int) = some (ba (jn 43 (row.map dg)))
  | 0, i, k, hi, hk => by
    obtain ⟨k, rfl⟩ : ∃ q, k = q + 1 := ⟨k - 1, by omega⟩
    simp only [impl_joined.l0]
    rw [if_neg (by omega), List.take_of_length_le (by omega), join_f _ 43 (by rw [List.length_map]; omega) (fun y hy => by obtain ⟨x, _, rfl⟩ := List.mem_map.1 hy; simp [dg])]
    rfl
  | d + 1, i, k, hi, hk => by
    obtain ⟨k, rfl⟩ : ∃ q, k = q + 1 := ⟨k - 1, by omega⟩
    have ha : i < row.length := by omega
    have hb := hx _ (List.getElem_mem ha)
    have ih := joined_l0 row hr hx d (i + 1) k (by omega) (by omega)
    rw [List.take_succ_eq_append_getElem ha, List.map_append, List.map_append] at ih
    simp only [impl_joined.l0]
    rw [if_pos (by omega), if_pos (by omega), if_pos (by omega), rd_lt ha, itoa_f _ hb.1 hb.2, Option.bind_some, if_pos (by simp; omega), up64 ha (by omega)]
    exact ih
theorem joined_f (row : List Int) (hr : row.length ≤ 500) (hx : ∀ x ∈ row, 0 ≤ x ∧ x ≤ 9) {k : Nat} (hk : row.length < k) : impl_joined.f k row (⟨#[43]⟩ : ByteArray) = some (ba (jn 43 (row.map dg))) := joined_l0 row hr hx row.length 0 k (by omega) hk
/-- The texts of the tests. -/
def rows (l : List (List Int)) : List (List UInt8) := l.map fun r => jn 43 (r.map dg)
theorem row_len (r : List Int) (h : r.length ≤ 10) : (jn 43 (r.map dg)).length ≤ 20 := by
  have h1 := jn_len 43 1 (r.map dg) (fun y hy => by obtain ⟨x, _, rfl⟩ := List.mem_map.1 hy; simp [dg])
  rw [List.length_map] at h1
  omega
theorem ttext_l0 (l : List (List Int)) (hn : l.length ≤ 100) (hr : ∀ c ∈ l, c.length ≤ 10 ∧ ∀ x ∈ c, 0 ≤ x ∧ x ≤ 9) : ∀ (d i k : Nat), i + d = l.length → d + 20 < k → impl_testsText.l0 k (((rows l).take i).map ba) l (l.length : Int) (i : Int) = some (ba (jn 47 (rows l)))
  | 0, i, k, hi, hk => by
    obtain ⟨k, rfl⟩ : ∃ q, k = q + 1 := ⟨k - 1, by omega⟩
    simp only [impl_testsText.l0]
    rw [if_neg (by omega), List.take_of_length_le (by simp [rows]; omega)]
    have h := join_f (rows l) 47 (by simp [rows]; omega) (fun y hy => by
      obtain ⟨r, hr', rfl⟩ := List.mem_map.1 hy
      have := row_len r (hr r hr').1
      omega)
    rw [show (⟨#[47]⟩ : ByteArray) = ba [47] from rfl, h]
    rfl
  | d + 1, i, k, hi, hk => by
    obtain ⟨k, rfl⟩ : ∃ q, k = q + 1 := ⟨k - 1, by omega⟩
    have ha : i < l.length := by omega
    have hb := hr _ (List.getElem_mem ha)
    have e : rd_L1 l (i : Int) = l[i] := by unfold rd_L1; simp [List.getD_eq_getElem?_getD, ha]
    have ih := ttext_l0 l hn hr d (i + 1) k (by omega) (by omega)
    have ha' : i < (rows l).length := by simpa [rows] using ha
    rw [List.take_succ_eq_append_getElem ha', List.map_append] at ih
    have er : (rows l)[i] = jn 43 (l[i].map dg) := by simp [rows]
    rw [er] at ih
    simp only [impl_testsText.l0]
    rw [if_pos (by omega), if_pos (by omega), if_pos (by omega), e, joined_f _ (by omega) hb.2 (by omega), Option.bind_some, if_pos (by simp; omega), up64 ha (by omega)]
    exact ih
theorem wt_l1 (T : List (List Int)) (n x : Int) (row : List Int) (hr : row.length ≤ 10) (hx : ∀ y ∈ row, 0 ≤ y ∧ y ≤ 9) : ∀ (d i q : Nat) (L : List UInt8), 1 ≤ i → i + d = row.length → 5 < q → L.length + 2 * d ≤ 10000 → spec_wiText.l1 (q + d + 1) (ba L) T n x row (row.length : Int) (i : Int) = spec_wiText.l0 q (ba (L ++ tl 43 ((row.drop i).map dg))) T n (wrap64 (x + 1))
  | 0, i, q, L, h1, hi, hq, hL => by
    simp only [spec_wiText.l1]
    rw [if_neg (by omega), List.drop_eq_nil_of_le (by omega)]
    simp [tl]
  | d + 1, i, q, L, h1, hi, hq, hL => by
    have ha : i < row.length := by omega
    have hb := hx _ (List.getElem_mem ha)
    obtain ⟨K, hK⟩ : ∃ K, K = q + (d + 1) := ⟨_, rfl⟩
    have hK2 : K = q + d + 1 := by omega
    have e : ba L ++ (⟨#[43]⟩ : ByteArray) ++ ba (dg row[i]) = ba (L ++ 43 :: dg row[i]) := by
      rw [show (⟨#[43]⟩ : ByteArray) = ba [43] from rfl, ba_app, ba_app]
      simp
    have es : (ba L ++ (⟨#[43]⟩ : ByteArray)).size = L.length + 1 := by
      rw [show (⟨#[43]⟩ : ByteArray) = ba [43] from rfl, ba_app, ba_size]
      simp
    rw [← hK]
    simp only [spec_wiText.l1]
    rw [if_pos (by omega), if_pos (by omega), if_pos (by omega), if_pos (by omega), if_pos (by rw [ba_size]; omega), rd_lt ha, num_f _ hb.1 hb.2 (by omega), Option.bind_some, if_pos (by rw [es, ba_size]; simp [dg]; omega), e, up64 ha (by omega), hK2, wt_l1 T n x row hr hx d (i + 1) q _ (by omega) (by omega) hq (by simp [dg]; omega), List.drop_eq_getElem_cons ha, List.map_cons]
    congr 2
    simp [tl]
theorem wt_row (T : List (List Int)) (n x : Int) (row : List Int) (h0 : 1 ≤ row.length) (hr : row.length ≤ 10) (hx : ∀ y ∈ row, 0 ≤ y ∧ y ≤ 9) (q : Nat) (L : List UInt8) (hq : 5 < q) (hL : L.length ≤ 9000) : spec_wiText.j1 (q + row.length + 2) (ba L) row T n x = spec_wiText.l0 q (ba (L ++ jn 43 (row.map dg))) T n (wrap64 (x + 1)) := by
  have hb := hx _ (List.getElem_mem (show 0 < row.length by omega))
  obtain ⟨K, hK⟩ : ∃ K, K = q + row.length := ⟨_, rfl⟩
  have hK2 : K = q + (row.length - 1) + 1 := by omega
  have hr0 : rd row 0 = row[0] := rd_lt (show 0 < row.length by omega)
  rw [← hK]
  simp only [spec_wiText.j1, spec_wiText.l1]
  rw [if_pos (by omega), if_pos (by omega), if_pos (by omega), if_neg (by omega), hr0, num_f _ hb.1 hb.2 (by omega), Option.bind_some, if_pos (by rw [ba_size, ba_size]; simp [dg]; omega), ba_app, show wrap64 (0 + 1) = ((1 : Nat) : Int) by unfold wrap64; omega, hK2, wt_l1 T n x row hr hx (row.length - 1) 1 q _ (by omega) (by omega) hq (by simp [dg]; omega)]
  congr 2
  cases row with
  | nil => simp at h0
  | cons y r => simp [jn]
theorem wt_l0 (l : List (List Int)) (hn : l.length ≤ 100) (hr : ∀ c ∈ l, 1 ≤ c.length ∧ c.length ≤ 10 ∧ ∀ x ∈ c, 0 ≤ x ∧ x ≤ 9) : ∀ (d i k : Nat) (L : List UInt8), i + d = l.length → 20 * d + 20 ≤ k → L.length ≤ 21 * i → spec_wiText.l0 k (ba L) l (l.length : Int) (i : Int) = some (ba (L ++ (if i = 0 then jn 47 (rows l) else tl 47 ((rows l).drop i))))
  | 0, i, k, L, hi, hk, hL => by
    obtain ⟨k, rfl⟩ : ∃ q, k = q + 1 := ⟨k - 1, by omega⟩
    simp only [spec_wiText.l0]
    rw [if_neg (by omega)]
    by_cases h : i = 0
    · have : l = [] := List.length_eq_zero_iff.1 (by omega)
      subst this
      rw [if_pos h]
      simp [rows, jn]
    · rw [if_neg h, List.drop_eq_nil_of_le (by simp [rows]; omega)]
      simp [tl]
  | d + 1, i, k, L, hi, hk, hL => by
    have ha : i < l.length := by omega
    have hb := hr _ (List.getElem_mem ha)
    have hrl := row_len l[i] hb.2.1
    have e : rd_L1 l (i : Int) = l[i] := by unfold rd_L1; simp [List.getD_eq_getElem?_getD, ha]
    have ha' : i < (rows l).length := by simpa [rows] using ha
    have er : (rows l)[i] = jn 43 (l[i].map dg) := by simp [rows]
    obtain ⟨q, hq⟩ : ∃ q, k = q + l[i].length + 2 + 1 := ⟨k - l[i].length - 3, by omega⟩
    obtain ⟨K, rfl⟩ : ∃ K, k = K + 1 := ⟨k - 1, by omega⟩
    have hK : K = q + l[i].length + 2 := by omega
    simp only [spec_wiText.l0]
    rw [if_pos (by omega), if_pos (by omega), if_pos (by omega), e]
    by_cases h0 : i = 0
    · subst h0
      rw [if_neg (by omega), hK, wt_row l _ _ l[0] hb.1 hb.2.1 hb.2.2 q L (by omega) (by omega), up64 ha (by omega), wt_l0 l hn hr d 1 q _ (by omega) (by omega) (by simp; omega), if_neg (by decide), if_pos rfl, List.append_assoc]
      congr 3
      cases l with
      | nil => simp at ha
      | cons r t => simp [rows, jn]
    · have e2 : ba L ++ (⟨#[47]⟩ : ByteArray) = ba (L ++ [47]) := by rw [show (⟨#[47]⟩ : ByteArray) = ba [47] from rfl, ba_app]
      rw [if_pos (by omega), if_pos (by rw [ba_size]; omega), e2, hK, wt_row l _ _ l[i] hb.1 hb.2.1 hb.2.2 q _ (by omega) (by simp; omega), up64 ha (by omega), wt_l0 l hn hr d (i + 1) q _ (by omega) (by omega) (by simp; omega), if_neg (by omega), if_neg h0, List.drop_eq_getElem_cons ha', er]
      congr 2
      simp [tl]
theorem wiText_f (l : List (List Int)) (hn : l.length ≤ 100) (hr : ∀ c ∈ l, 1 ≤ c.length ∧ c.length ≤ 10 ∧ ∀ x ∈ c, 0 ≤ x ∧ x ≤ 9) {k : Nat} (hk : 2020 ≤ k) : spec_wiText.f k l = some (ba (jn 47 (rows l))) := by
  have h := wt_l0 l hn hr l.length 0 k [] (by omega) (by omega) (by simp)
  rw [if_pos rfl] at h
  exact h
theorem testsText_f (l : List (List Int)) (hn : l.length ≤ 100) (hr : ∀ c ∈ l, c.length ≤ 10 ∧ ∀ x ∈ c, 0 ≤ x ∧ x ≤ 9) {k : Nat} (hk : 200 ≤ k) : impl_testsText.f k l = some (ba (jn 47 (rows l))) := ttext_l0 l hn hr l.length 0 k (by omega) (by omega)
theorem ba_ext {a b : ByteArray} (h : a.data.toList = b.data.toList) : a = b := ByteArray.ext (Array.toList_inj.1 h)
theorem ba_of (s : ByteArray) : ba s.data.toList = s := ba_ext (by simp [ba])
theorem ba_get (L : List UInt8) (i : Nat) (hi : i < (ba L).size) (hj : i < L.length) : (ba L)[i]'hi = L[i]'hj := by
  simp [ba, ByteArray.getElem_eq_getElem_data]
theorem ba_cut (L : List UInt8) (a b : Nat) : (ba L).extract a b = ba ((L.drop a).take (b - a)) := ba_ext (by rw [Lib.extract_data, ba_list, ba_list])
/-- The pieces between signs, with the piece under way. -/
def fl (p : Nat → Bool) : Option (List UInt8) → List UInt8 → List (List UInt8)
  | none, [] => []
  | some c, [] => [c]
  | none, b :: r => if p b.toNat = true then fl p none r else fl p (some [b]) r
  | some c, b :: r => if p b.toNat = true then c :: fl p none r else fl p (some (c ++ [b])) r
theorem take_next (L : List UInt8) (a i : Nat) (ha : a ≤ i) (h : i < L.length) : (L.drop a).take (i + 1 - a) = (L.drop a).take (i - a) ++ [L[i]] := by
  rw [show i + 1 - a = (i - a) + 1 by omega, List.take_succ_eq_append_getElem (by rw [List.length_drop]; omega), List.getElem_drop]
  simp only [show a + (i - a) = i by omega]
theorem fields_go (p : Nat → Bool) (L : List UInt8) (ha : ∀ b ∈ L, b.toNat < 128) : ∀ (d pos f : Nat) (st : Option Nat) (acc : List (Nat × Nat)), pos + d = L.length → d ≤ f → (∀ a, st = some a → a ≤ pos) → (Lib.closeSpans (ba L) (Lib.spansFromP p (ba L) f pos st acc)).map (fun x => (ba L).extract x.1 x.2) = acc.map (fun x => (ba L).extract x.1 x.2) ++ (fl p (st.map fun a => (L.drop a).take (pos - a)) (L.drop pos)).map ba
  | 0, pos, f, st, acc, hp, hf, hs => by
    have e : ¬ pos < (ba L).size := by rw [ba_size]; omega
    rw [Lib.spansFromP_end p _ f pos st acc e, List.drop_eq_nil_of_le (by omega)]
    cases st with
    | none => simp [Lib.closeSpans, fl]
    | some a =>
      have hpl : pos = L.length := by omega
      simp [Lib.closeSpans, fl, ba_cut, ba_size, hpl]
  | d + 1, pos, f, st, acc, hp, hf, hs => by
    obtain ⟨f, rfl⟩ : ∃ q, f = q + 1 := ⟨f - 1, by omega⟩
    have hlt : pos < L.length := by omega
    have hlt' : pos < (ba L).size := by rw [ba_size]; exact hlt
    have hg := ba_get L pos hlt' hlt
    have hd : Utf8.decode (ba L) pos = ((L[pos]'hlt).toNat, 1) := by
      have e := Go.decode_ascii (ba L) pos hlt' (by rw [hg]; exact ha _ (List.getElem_mem _))
      rw [hg] at e
      exact e
    unfold Lib.spansFromP
    rw [if_pos hlt', hd, List.drop_eq_getElem_cons hlt]
    cases st with
    | none =>
      by_cases hb : p (L[pos]'hlt).toNat = true
      · simp only [hb, if_true]
        rw [fields_go p L ha d (pos + 1) f none acc (by omega) (by omega) (by simp)]
        simp only [Option.map_none, fl]
        rw [if_pos hb]
      · simp only [if_neg hb]
        rw [fields_go p L ha d (pos + 1) f (some pos) acc (by omega) (by omega) (by intro a h; cases h; omega)]
        simp only [Option.map_some, Option.map_none, fl]
        rw [if_neg hb, take_next L pos pos (Nat.le_refl _) hlt, Nat.sub_self, List.take_zero, List.nil_append]
    | some a =>
      have hap := hs a rfl
      by_cases hb : p (L[pos]'hlt).toNat = true
      · simp only [hb, if_true]
        rw [fields_go p L ha d (pos + 1) f none _ (by omega) (by omega) (by simp)]
        simp only [Option.map_some, Option.map_none, fl]
        rw [if_pos hb, List.map_append, List.append_assoc, List.map_cons, List.map_cons, List.map_nil, ba_cut]
        rfl
      · simp only [if_neg hb]
        rw [fields_go p L ha d (pos + 1) f (some a) acc (by omega) (by omega) (by intro b h; cases h; omega)]
        simp only [Option.map_some, fl]
        rw [if_neg hb, take_next L a pos hap hlt]
theorem fieldsP_ba (p : Nat → Bool) (L : List UInt8) (ha : ∀ b ∈ L, b.toNat < 128) : Lib.goFieldsP p (ba L) = (fl p none L).map ba := by
  unfold Lib.goFieldsP Lib.spansOfP
  rw [fields_go p L ha L.length 0 _ none [] (by omega) (by rw [ba_size]; exact Nat.le_refl _) (by simp)]
  simp
theorem fl_word (p : Nat → Bool) : ∀ (w c r : List UInt8), (∀ b ∈ w, p b.toNat = false) → fl p (some c) (w ++ r) = fl p (some (c ++ w)) r
  | [], c, r, _ => by simp
  | b :: w, c, r, h => by
    have hb := h b (by simp)
    rw [List.cons_append]
    simp only [fl, hb, Bool.false_eq_true, if_false]
    rw [fl_word p w _ r (fun x hx => h x (by simp [hx]))]
    simp
theorem fl_start (p : Nat → Bool) (w r : List UInt8) (hw : w ≠ []) (h : ∀ b ∈ w, p b.toNat = false) : fl p none (w ++ r) = fl p (some w) r := by
  cases w with
  | nil => exact absurd rfl hw
  | cons b w =>
    have hb := h b (by simp)
    rw [List.cons_append]
    simp only [fl, hb, Bool.false_eq_true, if_false]
    rw [fl_word p w _ r (fun x hx => h x (by simp [hx]))]
    rfl
theorem fl_sign (p : Nat → Bool) (c : List UInt8) (s : UInt8) (r : List UInt8) (hs : p s.toNat = true) : fl p (some c) (s :: r) = c :: fl p none r := by simp [fl, hs]
theorem fl_tl (p : Nat → Bool) (s : UInt8) (hs : p s.toNat = true) : ∀ (ws : List (List UInt8)) (c : List UInt8), (∀ w ∈ ws, w ≠ [] ∧ ∀ b ∈ w, p b.toNat = false) → fl p (some c) (tl s ws) = c :: ws
  | [], c, _ => by simp [tl, fl]
  | w :: ws, c, h => by
    have e : tl s (w :: ws) = s :: (w ++ tl s ws) := by simp [tl]
    rw [e, fl_sign p c s _ hs, fl_start p w _ (h w (by simp)).1 (h w (by simp)).2, fl_tl p s hs ws w (fun x hx => h x (by simp [hx]))]
theorem fl_jn (p : Nat → Bool) (s : UInt8) (hs : p s.toNat = true) (ws : List (List UInt8)) (h : ∀ w ∈ ws, w ≠ [] ∧ ∀ b ∈ w, p b.toNat = false) : fl p none (jn s ws) = ws := by
  cases ws with
  | nil => simp [jn, fl]
  | cons w ws =>
    show fl p none (w ++ tl s ws) = _
    rw [fl_start p w _ (h w (by simp)).1 (h w (by simp)).2, fl_tl p s hs ws w (fun x hx => h x (by simp [hx]))]
/-- How many pieces are under way. -/
def op : Option Nat → Nat
  | none => 0
  | some _ => 1
theorem spans_len (p : Nat → Bool) (s : ByteArray) : ∀ (f pos : Nat) (st : Option Nat) (acc : List (Nat × Nat)), (Lib.spansFromP p s f pos st acc).1.length + op (Lib.spansFromP p s f pos st acc).2 ≤ acc.length + op st + f
  | 0, _, _, _ => by simp [Lib.spansFromP]
  | f + 1, pos, st, acc => by
    unfold Lib.spansFromP
    split
    · split
      · cases st with
        | none => have := spans_len p s f (pos + (Utf8.decode s pos).2) none acc; simp only; omega
        | some a => have := spans_len p s f (pos + (Utf8.decode s pos).2) none (acc ++ [(a, pos)]); simp only [List.length_append, List.length_singleton, op] at this ⊢; omega
      · cases st with
        | none => have := spans_len p s f (pos + (Utf8.decode s pos).2) (some pos) acc; simp only [op] at this ⊢; omega
        | some a => have := spans_len p s f (pos + (Utf8.decode s pos).2) (some a) acc; simp only [op] at this ⊢; omega
    · simp only; omega
theorem words_len (p : Nat → Bool) (s : ByteArray) : (Lib.goFieldsP p s).length ≤ s.size := by
  have h := spans_len p s s.size 0 none []
  unfold Lib.goFieldsP Lib.spansOfP Lib.closeSpans
  rw [List.length_map]
  simp only [List.length_nil, op] at h
  split
  · rename_i e; rw [e] at h; rw [List.length_append, List.length_singleton]; simp only at h; omega
  · omega
theorem words_size (p : Nat → Bool) (s : ByteArray) : ∀ x ∈ Lib.goFieldsP p s, x.size ≤ s.size := by
  intro x hx
  obtain ⟨y, _, rfl⟩ := List.mem_map.1 hx
  rw [ByteArray.size_extract]
  omega
theorem splitB_size (sep : ByteArray) (save : Nat) : ∀ (k : Nat) (s : ByteArray), ∀ x ∈ Lib.splitB sep save k s, x.size ≤ s.size
  | 0, s, x, hx => by simp [Lib.splitB] at hx; rw [hx]; exact Nat.le_refl _
  | k + 1, s, x, hx => by
    unfold Lib.splitB at hx
    split at hx
    · simp at hx; rw [hx]; exact Nat.le_refl _
    · rcases List.mem_cons.1 hx with rfl | hx
      · rw [ByteArray.size_extract]; omega
      · have := splitB_size sep save k _ x hx
        rw [ByteArray.size_extract] at this
        omega
theorem index_at (c : UInt8) : ∀ (x t : List UInt8), c ∉ x → Lib.index (x ++ c :: t) [c] = (x.length : Int)
  | [], t, _ => by simp [Lib.index, List.isPrefixOf]
  | b :: x, t, h => by
    have hb : c ≠ b := fun e => h (by simp [e])
    have ih := index_at c x t (fun e => h (by simp [e]))
    have hp : ([c] : List UInt8).isPrefixOf (b :: (x ++ c :: t)) = false := by simp [List.isPrefixOf, hb]
    rw [List.cons_append, Lib.index, hp, ih]
    simp only [Bool.false_eq_true, if_false]
    rw [if_neg (by intro e; have := beq_iff_eq.1 e; omega)]
    simp
theorem splitK_jn (c : UInt8) : ∀ (r : List (List UInt8)) (x : List UInt8), (∀ y ∈ x :: r, c ∉ y) → Lib.splitK [c] 0 r.length (jn c (x :: r)) = x :: r
  | [], x, _ => by simp [Lib.splitK, jn, tl]
  | y :: r, x, h => by
    have e : jn c (x :: y :: r) = x ++ c :: jn c (y :: r) := by simp [jn, tl]
    have hi := index_at c x (jn c (y :: r)) (h x (by simp))
    rw [← e] at hi
    rw [List.length_cons, Lib.splitK, hi, if_neg (by intro e; have := beq_iff_eq.1 e; omega), show ((x.length : Int)).toNat = x.length from rfl, e]
    have e2 : (x ++ c :: jn c (y :: r)).drop (x.length + ([c] : List UInt8).length) = jn c (y :: r) := by
      rw [List.drop_append]; simp
    rw [e2, splitK_jn c r y (fun z hz => h z (by simp at hz ⊢; exact .inr hz))]
    simp
theorem count_tl (c : UInt8) : ∀ (r : List (List UInt8)), (∀ y ∈ r, c ∉ y) → (tl c r).count c = r.length
  | [], _ => by simp [tl]
  | y :: r, h => by
    have e : tl c (y :: r) = c :: (y ++ tl c r) := by simp [tl]
    rw [e, List.count_cons_self, List.count_append, List.count_eq_zero.2 (h y (by simp)), count_tl c r (fun z hz => h z (by simp [hz]))]
    simp
theorem splitB_jn (c : UInt8) (x : List UInt8) (r : List (List UInt8)) (h : ∀ y ∈ x :: r, c ∉ y) : Lib.splitB ⟨#[c]⟩ 0 (Lib.countB (ba (jn c (x :: r))) ⟨#[c]⟩) (ba (jn c (x :: r))) = (x :: r).map ba := by
  have hc : Lib.countB (ba (jn c (x :: r))) ⟨#[c]⟩ = r.length := by
    show Lib.count (ba (jn c (x :: r))).data.toList [c] = _
    rw [ba_list, Lib.count_one]
    show (x ++ tl c r).count c = _
    rw [List.count_append, List.count_eq_zero.2 (h x (by simp)), count_tl c r (fun z hz => h z (by simp [hz]))]
    simp
  rw [hc]
  have hs := Lib.splitB_data ⟨#[c]⟩ 0 r.length (ba (jn c (x :: r)))
  rw [ba_list, show (⟨#[c]⟩ : ByteArray).data.toList = [c] from rfl, splitK_jn c r x h] at hs
  have hm := congrArg (List.map ba) hs
  rw [List.map_map, show (ba ∘ fun x : ByteArray => x.data.toList) = id by funext s; exact ba_of s, List.map_id] at hm
  exact hm
theorem bt_ba (L : List UInt8) (i : Nat) (h : i < L.length) : bt (ba L) (i : Int) = ((L[i]'h).toNat : Int) := by
  have h' : (i : Int).toNat < (ba L).size := by rw [ba_size]; exact h
  unfold bt
  rw [dif_pos h', ba_get L ((i : Int).toNat) h' h]
  rfl
/-- What the reference reads out of a word's bytes. -/
def rd0 : Int → List UInt8 → Int
  | v, [] => v
  | v, b :: r => if (b.toNat : Int) < 48 then -1 else if (b.toNat : Int) > 57 then -1 else rd0 (wrap64 ((wrap64 (10 * v)) + (((b.toNat : Int) - 48) % 256))) r
def rdv (L : List UInt8) : Int := if 1 ≤ L.length ∧ L.length ≤ 6 ∧ ¬(L.head? = some 48 ∧ 1 < L.length) then rd0 0 L else -1
theorem l1Read_l0 (L : List UInt8) (hn : L.length ≤ 1000) : ∀ (d i k : Nat) (v : Int), i + d = L.length → d < k → spec_l1Read.l0 k (ba L) v (i : Int) = some (rd0 v (L.drop i))
  | 0, i, k, v, hi, hk => by
    obtain ⟨k, rfl⟩ : ∃ q, k = q + 1 := ⟨k - 1, by omega⟩
    simp only [spec_l1Read.l0]
    rw [if_neg (by rw [ba_size]; omega), List.drop_eq_nil_of_le (by omega)]
    rfl
  | d + 1, i, k, v, hi, hk => by
    obtain ⟨k, rfl⟩ : ∃ q, k = q + 1 := ⟨k - 1, by omega⟩
    have hlt : i < L.length := by omega
    simp only [spec_l1Read.l0]
    rw [if_pos (by rw [ba_size]; omega), if_pos (by omega), bt_ba L i hlt, List.drop_eq_getElem_cons hlt]
    simp only [rd0]
    rw [up64 hlt (by omega), l1Read_l0 L hn d (i + 1) k _ (by omega) (by omega)]
    split
    · rfl
    · split
      · rfl
      · rfl
theorem l1Read_f (L : List UInt8) (hn : L.length ≤ 1000) {k : Nat} (hk : L.length + 2 < k) : spec_l1Read.f k (ba L) = some (rdv L) := by
  obtain ⟨k, rfl⟩ : ∃ q, k = q + 1 := ⟨k - 1, by omega⟩
  have h0 := l1Read_l0 L hn L.length 0 k 0 (by omega) (by omega)
  rw [List.drop_zero, show ((0 : Nat) : Int) = 0 from rfl] at h0
  unfold spec_l1Read.f spec_l1In.f rdv
  by_cases h1 : 1 ≤ L.length
  · rw [if_pos (by rw [ba_size]; omega)]
    simp only [Option.bind_some]
    by_cases h2 : L.length ≤ 6
    · have hb := bt_ba L 0 (by omega)
      rw [show ((0 : Nat) : Int) = 0 from rfl] at hb
      have hh : L.head? = some (L[0]'(by omega)) := by cases L with | nil => simp at h1 | cons b r => rfl
      rw [if_pos (by rw [ba_size]; simp; omega), if_pos (by rw [ba_size]; omega), hb, hh]
      by_cases h3 : (L[0]'(by omega)) = 48
      · rw [if_pos (by rw [h3]; rfl), ba_size]
        simp only [spec_l1Read.j0]
        by_cases h4 : 1 < L.length
        · rw [if_pos (by simp; omega), if_neg (by rw [h3]; simp; omega)]
        · rw [if_neg (by simp; omega), if_pos ⟨h1, h2, by omega⟩, h0]
      · rw [if_neg (fun e => h3 (UInt8.toNat_inj.1 (by have : (48 : UInt8).toNat = 48 := rfl; omega)))]
        simp only [spec_l1Read.j0]
        rw [if_neg (by simp), h0, if_pos ⟨h1, h2, by simp [h3]⟩]
    · rw [if_neg (by rw [ba_size]; simp; omega), if_neg (by omega)]
      simp only [spec_l1Read.j0, if_true]
  · rw [if_neg (by rw [ba_size]; omega)]
    simp only [Option.bind_some, spec_l1Read.j0, Bool.false_eq_true, if_false, if_true]
    rw [if_neg (fun h => h1 h.1)]
/-- A text cut at a sign. -/
def sp (c : UInt8) : List UInt8 → List UInt8 → List (List UInt8)
  | cur, [] => [cur]
  | cur, b :: r => if b = c then cur :: sp c [] r else sp c (cur ++ [b]) r
theorem sp_len (c : UInt8) : ∀ (r cur : List UInt8), (sp c cur r).length ≤ r.length + 1
  | [], cur => by simp [sp]
  | b :: r, cur => by
    simp only [sp]
    split
    · have := sp_len c r []; simp only [List.length_cons]; omega
    · have := sp_len c r (cur ++ [b]); simp only [List.length_cons]; omega
theorem sp_size (c : UInt8) : ∀ (r cur : List UInt8), ∀ x ∈ sp c cur r, x.length ≤ cur.length + r.length
  | [], cur, x, hx => by simp [sp] at hx; rw [hx]; simp
  | b :: r, cur, x, hx => by
    simp only [sp] at hx
    split at hx
    · rcases List.mem_cons.1 hx with rfl | hx
      · simp
      · have := sp_size c r [] x hx; simp at this; simp only [List.length_cons]; omega
    · have := sp_size c r _ x hx; simp only [List.length_append, List.length_singleton] at this; simp only [List.length_cons]; omega
theorem sp_word (c : UInt8) : ∀ (w cur r : List UInt8), c ∉ w → sp c cur (w ++ r) = sp c (cur ++ w) r
  | [], cur, r, _ => by simp
  | b :: w, cur, r, h => by
    have hb : ¬ b = c := fun e => h (by simp [e])
    rw [List.cons_append]
    simp only [sp]
    rw [if_neg hb, sp_word c w _ r (fun e => h (by simp [e]))]
    simp
theorem sp_tl (c : UInt8) : ∀ (r : List (List UInt8)) (cur : List UInt8), (∀ y ∈ r, c ∉ y) → sp c cur (tl c r) = cur :: r
  | [], cur, _ => by simp [tl, sp]
  | y :: r, cur, h => by
    have e : tl c (y :: r) = c :: (y ++ tl c r) := by simp [tl]
    rw [e]
    simp only [sp]
    rw [if_pos trivial, sp_word c y [] _ (h y (by simp)), sp_tl c r _ (fun z hz => h z (by simp [hz]))]
    simp
theorem sp_jn (c : UInt8) (x : List UInt8) (r : List (List UInt8)) (h : ∀ y ∈ x :: r, c ∉ y) : sp c [] (jn c (x :: r)) = x :: r := by
  show sp c [] (x ++ tl c r) = _
  rw [sp_word c x [] _ (h x (by simp)), sp_tl c r _ (fun z hz => h z (by simp [hz]))]
  simp
theorem l1Split_l0 (c : UInt8) (L : List UInt8) (hn : L.length ≤ 1000) : ∀ (d i a k : Nat) (acc : List ByteArray), i + d = L.length → a ≤ i → acc.length + d ≤ 2000 → d < k → spec_l1Split.l0 k (ba L) (c.toNat : Int) acc (a : Int) (i : Int) = some (acc ++ (sp c ((L.drop a).take (i - a)) (L.drop i)).map ba)
  | 0, i, a, k, acc, hi, ha, hacc, hk => by
    obtain ⟨k, rfl⟩ : ∃ q, k = q + 1 := ⟨k - 1, by omega⟩
    simp only [spec_l1Split.l0]
    rw [if_neg (by rw [ba_size]; omega), if_pos (by omega), if_pos (by rw [ba_size]; omega), if_pos (by omega), (show L.drop i = [] from List.drop_eq_nil_of_le (by omega)), show ((a : Nat) : Int).toNat = a from rfl, ba_size, ba_cut, show L.length - a = i - a by omega]
    simp [sp]
  | d + 1, i, a, k, acc, hi, ha, hacc, hk => by
    obtain ⟨k, rfl⟩ : ∃ q, k = q + 1 := ⟨k - 1, by omega⟩
    have hlt : i < L.length := by omega
    simp only [spec_l1Split.l0]
    rw [if_pos (by rw [ba_size]; omega), if_pos (by omega), bt_ba L i hlt, List.drop_eq_getElem_cons hlt]
    simp only [sp]
    by_cases hc : L[i]'hlt = c
    · rw [if_pos (by rw [hc]), if_pos (by omega), if_pos (by omega), if_pos (by rw [ba_size]; omega), if_pos (by omega), up64 hlt (by omega), show ((a : Nat) : Int).toNat = a from rfl, show ((i : Nat) : Int).toNat = i from rfl, ba_cut, l1Split_l0 c L hn d (i + 1) (i + 1) k _ (by omega) (by omega) (by simp; omega) (by omega), if_pos hc, Nat.sub_self, List.take_zero, List.map_cons, List.append_assoc, List.singleton_append]
    · rw [if_neg (fun e => hc (UInt8.toNat_inj.1 (by omega))), up64 hlt (by omega), l1Split_l0 c L hn d (i + 1) a k _ (by omega) (by omega) (by omega) (by omega), if_neg hc, take_next L a i ha hlt]
theorem l1Split_f (c : UInt8) (L : List UInt8) (hn : L.length ≤ 1000) {k : Nat} (hk : L.length < k) : spec_l1Split.f k (ba L) (c.toNat : Int) = some ((sp c [] L).map ba) := by
  have h := l1Split_l0 c L hn L.length 0 0 k [] (by omega) (by omega) (by simp; omega) hk
  unfold spec_l1Split.f
  simpa using h
theorem jn_len1 (s : UInt8) (B : Nat) (xs : List (List UInt8)) (h0 : xs ≠ []) (h : ∀ y ∈ xs, y.length ≤ B) : (jn s xs).length + 1 ≤ (B + 1) * xs.length := by
  cases xs with
  | nil => exact absurd rfl h0
  | cons x r =>
    have h1 := h x (by simp)
    have h2 := tl_len s B r (fun y hy => h y (by simp [hy]))
    simp only [jn, List.length_append, List.length_cons, Nat.mul_add]
    omega
theorem mem_tl (c b : UInt8) : ∀ (r : List (List UInt8)), b ∈ tl c r → b = c ∨ ∃ y ∈ r, b ∈ y
  | [], h => by simp [tl] at h
  | y :: r, h => by
    have e : tl c (y :: r) = c :: (y ++ tl c r) := by simp [tl]
    rw [e] at h
    rcases List.mem_cons.1 h with h | h
    · exact .inl h
    · rcases List.mem_append.1 h with h | h
      · exact .inr ⟨y, by simp, h⟩
      · rcases mem_tl c b r h with h | ⟨z, hz, h⟩
        · exact .inl h
        · exact .inr ⟨z, by simp [hz], h⟩
theorem mem_jn (c b : UInt8) (xs : List (List UInt8)) (h : b ∈ jn c xs) : b = c ∨ ∃ y ∈ xs, b ∈ y := by
  cases xs with
  | nil => simp [jn] at h
  | cons x r =>
    rcases List.mem_append.1 (show b ∈ x ++ tl c r from h) with h | h
    · exact .inr ⟨x, by simp, h⟩
    · rcases mem_tl c b r h with h | ⟨z, hz, h⟩
      · exact .inl h
      · exact .inr ⟨z, by simp [hz], h⟩
theorem dg_nat (x : Int) (h0 : 0 ≤ x) (h1 : x ≤ 9) : ∃ n : Nat, n < 10 ∧ x = (n : Int) := ⟨x.toNat, by omega, by omega⟩
theorem dg_all (P : UInt8 → Prop) (hP : ∀ n < 10, P (UInt8.ofNat (48 + n))) (x : Int) (h0 : 0 ≤ x) (h1 : x ≤ 9) : ∀ b ∈ dg x, P b := by
  obtain ⟨n, hn, rfl⟩ := dg_nat x h0 h1
  intro b hb
  have e : dg (n : Int) = [UInt8.ofNat (48 + n)] := rfl
  rw [e, List.mem_singleton] at hb
  rw [hb]
  exact hP n hn
theorem number_dg (x m : Int) (h0 : 0 ≤ x) (h1 : x ≤ 9) (hm : 9 ≤ m) : impl_number.f (ba (dg x)) m = (x, true) := by
  obtain ⟨n, hn, rfl⟩ := dg_nat x h0 h1
  have hA : Lib.atoiAll (dg (n : Int)) = .ok (n : Int) := by
    have h : ∀ n : Nat, n < 10 → Lib.atoiAll (dg (n : Int)) = .ok (n : Int) := by decide +kernel
    exact h n hn
  have hI : Lib.itoa (n : Int) = dg (n : Int) := by
    unfold Lib.itoa
    rw [if_neg (by omega), show ((n : Int)).toNat = n from rfl, dec_small n hn]
    rfl
  unfold impl_number.f
  rw [ba_list, hA]
  simp only
  rw [hI, if_pos ⟨rfl, by omega, by omega⟩]
theorem run_dg (m : Int) (hm : 9 ≤ m) : ∀ (row out : List Int), (∀ x ∈ row, 0 ≤ x ∧ x ≤ 9) → impl_numbers.run m ((row.map dg).map ba) out = (out ++ row, true)
  | [], out, _ => by simp [impl_numbers.run]
  | x :: row, out, h => by
    have hx := h x (by simp)
    simp only [List.map_cons, impl_numbers.run]
    rw [number_dg x m hx.1 hx.2 hm, if_pos rfl, run_dg m hm row _ (fun y hy => h y (by simp [hy]))]
    simp
/-- A list of tests that can be told. -/
def RowOk (c : List Int) : Prop := 1 ≤ c.length ∧ c.length ≤ 10 ∧ ∀ x ∈ c, 0 ≤ x ∧ x ≤ 9
theorem row_byte (c : List Int) (h : RowOk c) : ∀ b ∈ jn 43 (c.map dg), b.toNat < 128 ∧ b ≠ 47 := by
  intro b hb
  rcases mem_jn 43 b _ hb with rfl | ⟨y, hy, hb⟩
  · decide
  · obtain ⟨x, hx, rfl⟩ := List.mem_map.1 hy
    exact dg_all (fun b => b.toNat < 128 ∧ b ≠ 47) (by decide) x (h.2.2 x hx).1 (h.2.2 x hx).2 b hb
theorem numbers_row (c : List Int) (h : RowOk c) : impl_numbers.f (ba (jn 43 (c.map dg))) 10 = some (c, true) := by
  have hw : impl_numbers.words (ba (jn 43 (c.map dg))) = (c.map dg).map ba := by
    unfold impl_numbers.words
    rw [fieldsP_ba _ _ (fun b hb => (row_byte c h b hb).1), fl_jn _ 43 (by decide) _ (fun w hw => by
      obtain ⟨x, hx, rfl⟩ := List.mem_map.1 hw
      exact ⟨by simp [dg], dg_all (fun b => strings_ContainsRune.p ⟨#[43]⟩ b.toNat = false) (by decide) x (h.2.2 x hx).1 (h.2.2 x hx).2⟩)]
  have hl := row_len c h.2.1
  unfold impl_numbers.f
  rw [hw, if_pos ⟨by rw [ba_size]; omega, by rw [List.length_map, List.length_map]; have := h.2.1; omega, fun x hx => by
    obtain ⟨y, hy, rfl⟩ := List.mem_map.1 hx
    obtain ⟨z, hz, rfl⟩ := List.mem_map.1 hy
    rw [ba_size]
    simp [dg]⟩, run_dg 10 (by omega) c [] h.2.2]
  rfl
theorem rows_ok : ∀ (T out : List (List Int)), (∀ c ∈ T, RowOk c) → impl_ParseTests.rows ((rows T).map ba) out = some (out ++ T, true)
  | [], out, _ => by simp [rows, impl_ParseTests.rows]
  | c :: T, out, h => by
    have e : (rows (c :: T)).map ba = ba (jn 43 (c.map dg)) :: (rows T).map ba := by simp [rows]
    rw [e]
    simp only [impl_ParseTests.rows]
    rw [numbers_row c (h c (by simp)), Option.bind_some]
    simp only
    rw [if_pos trivial, rows_ok T _ (fun d hd => h d (by simp [hd]))]
    simp
theorem rows_some : ∀ (ps : List ByteArray) (out : List (List Int)), (∀ p ∈ ps, p.size ≤ 1048576) → ∃ t, impl_ParseTests.rows ps out = some t ∧ (t.2 = false → t.1 = [])
  | [], out, _ => ⟨_, rfl, by simp⟩
  | p :: ps, out, h => by
    have hp := h p (by simp)
    simp only [impl_ParseTests.rows]
    have hn : impl_numbers.f p 10 = some (impl_numbers.run 10 (impl_numbers.words p) []) := by
      unfold impl_numbers.f
      rw [if_pos ⟨hp, by have := words_len (strings_ContainsRune.p ⟨#[43]⟩) p; unfold impl_numbers.words; omega, fun x hx => by have := words_size (strings_ContainsRune.p ⟨#[43]⟩) p x hx; omega⟩]
    rw [hn, Option.bind_some]
    split
    · exact rows_some ps _ (fun q hq => h q (by simp [hq]))
    · exact ⟨_, rfl, by simp⟩
theorem run_len (m : Int) : ∀ (ws : List ByteArray) (out : List Int), (impl_numbers.run m ws out).1.length ≤ out.length + ws.length
  | [], out => by simp [impl_numbers.run]
  | w :: ws, out => by
    simp only [impl_numbers.run]
    split
    · have := run_len m ws (out ++ [(impl_number.f w m).1]); simp at this ⊢; omega
    · simp
theorem rows_bound : ∀ (ps : List ByteArray) (out : List (List Int)) (t : List (List Int) × Bool), (∀ p ∈ ps, p.size ≤ 1048576) → (∀ c ∈ out, c.length ≤ 1048576) → impl_ParseTests.rows ps out = some t → ∀ c ∈ t.1, c.length ≤ 1048576
  | [], out, t, _, ho, h => by cases h; exact ho
  | p :: ps, out, t, hp, ho, h => by
    simp only [impl_ParseTests.rows] at h
    obtain ⟨u, hu, h⟩ := Option.bind_eq_some_iff.mp h
    split at h
    · refine rows_bound ps _ t (fun q hq => hp q (by simp [hq])) ?_ h
      intro c hc
      rcases List.mem_append.1 hc with hc | hc
      · exact ho c hc
      · rw [List.mem_singleton] at hc
        unfold impl_numbers.f at hu
        split at hu
        · cases hu
          have h1 := run_len 10 (impl_numbers.words p) []
          have h2 := words_len (strings_ContainsRune.p ⟨#[43]⟩) p
          have h3 := hp p (by simp)
          unfold impl_numbers.words at h1 hc
          rw [hc]
          simp only [List.length_nil] at h1
          omega
        · cases hu
    · cases h; simp
theorem parts_size (s : ByteArray) : ∀ p ∈ impl_ParseTests.parts s, p.size ≤ s.size := splitB_size _ _ _ _
theorem parts_len (s : ByteArray) : (impl_ParseTests.parts s).length ≤ s.size + 1 := by
  have h1 := Lib.splitB_length_le ⟨#[47]⟩ 0 (Lib.countB s ⟨#[47]⟩) s
  have h2 := Lib.countB_le ⟨#[47]⟩ (by decide) s.size s (Nat.le_refl _)
  unfold impl_ParseTests.parts
  omega
/-- The tests that the reference reads out of a text. -/
def prow (t : List UInt8) : List Int := (sp 43 [] t).map rdv
def prs (L : List UInt8) : List (List Int) := if L = [] then [] else (sp 47 [] L).map prow
/-- The end of both: the tests, where they are tests and the text is theirs. -/
def fin (L : List UInt8) (T : List (List Int)) : List (List Int) × Bool := if tst 10 T = true ∧ jn 47 (rows T) = L then (T, true) else ([], false)
theorem tst_ok {T : List (List Int)} (h : tst 10 T = true) : T.length ≤ 12 ∧ ∀ c ∈ T, RowOk c := by
  obtain ⟨t1, t2, t3, t4⟩ := tst_cases h
  exact ⟨t3, fun c hc => ⟨(t4 c hc).1, rising_len 10 c t1 t2 (t4 c hc).2, rising_wires 10 c t1 t2 (t4 c hc).2⟩⟩
theorem row_len19 (c : List Int) (h : RowOk c) : (jn 43 (c.map dg)).length ≤ 19 := by
  have h1 := jn_len1 43 1 (c.map dg) (fun e => by have := h.1; simp at e; rw [e] at this; simp at this) (fun y hy => by obtain ⟨x, _, rfl⟩ := List.mem_map.1 hy; simp [dg])
  rw [List.length_map] at h1
  have := h.2.1
  omega
theorem text_len {T : List (List Int)} (h : tst 10 T = true) : (jn 47 (rows T)).length ≤ 240 := by
  obtain ⟨h1, h2⟩ := tst_ok h
  have := jn_len 47 19 (rows T) (fun y hy => by obtain ⟨c, hc, rfl⟩ := List.mem_map.1 hy; exact row_len19 c (h2 c hc))
  rw [show (rows T).length = T.length by simp [rows]] at this
  omega
theorem rdv_dg (x : Int) (h0 : 0 ≤ x) (h1 : x ≤ 9) : rdv (dg x) = x := by
  obtain ⟨n, hn, rfl⟩ := dg_nat x h0 h1
  have h : ∀ n : Nat, n < 10 → rdv (dg (n : Int)) = (n : Int) := by decide +kernel
  exact h n hn
theorem prow_row (c : List Int) (h : RowOk c) : prow (jn 43 (c.map dg)) = c := by
  cases c with
  | nil => have := h.1; simp at this
  | cons x r =>
    unfold prow
    rw [List.map_cons, sp_jn 43 (dg x) (r.map dg) (fun y hy hb => by
      rw [← List.map_cons] at hy
      obtain ⟨z, hz, rfl⟩ := List.mem_map.1 hy
      exact dg_all (fun b => b ≠ 43) (by decide) z (h.2.2 z hz).1 (h.2.2 z hz).2 43 hb rfl), ← List.map_cons, List.map_map]
    have e : ∀ l : List Int, (∀ z ∈ l, 0 ≤ z ∧ z ≤ 9) → l.map (rdv ∘ dg) = l := by
      intro l hl
      induction l with
      | nil => rfl
      | cons z l ih => rw [List.map_cons, ih (fun y hy => hl y (by simp [hy])), Function.comp, rdv_dg z (hl z (by simp)).1 (hl z (by simp)).2]
    exact e _ h.2.2
theorem row_ne (c : List Int) (h : RowOk c) : jn 43 (c.map dg) ≠ [] := by
  cases c with
  | nil => have := h.1; simp at this
  | cons x r => simp [jn, dg]
theorem prs_text {T : List (List Int)} (h : ∀ c ∈ T, RowOk c) : prs (jn 47 (rows T)) = T := by
  cases T with
  | nil => rfl
  | cons c T =>
    have hne : jn 47 (rows (c :: T)) ≠ [] := by
      intro e
      have e2 : jn 43 (c.map dg) ++ tl 47 (rows T) = [] := e
      exact row_ne c (h c (by simp)) (List.append_eq_nil_iff.1 e2).1
    unfold prs
    rw [if_neg hne]
    have e : rows (c :: T) = jn 43 (c.map dg) :: rows T := rfl
    rw [e, sp_jn 47 _ _ (fun y hy hb => by
      rw [← e] at hy
      obtain ⟨d, hd, rfl⟩ := List.mem_map.1 hy
      exact (row_byte d (h d hd) 47 hb).2 rfl), ← e]
    have e2 : ∀ l : List (List Int), (∀ d ∈ l, RowOk d) → (rows l).map prow = l := by
      intro l hl
      induction l with
      | nil => rfl
      | cons d l ih =>
        have ih := ih (fun y hy => hl y (by simp [hy]))
        unfold rows at ih ⊢
        rw [List.map_cons, List.map_cons, ih, prow_row d (hl d (by simp))]
    exact e2 _ h
theorem ba_inj {L M : List UInt8} : (ba L).toList = (ba M).toList ↔ L = M := by
  rw [ByteArray.toList_eq, ByteArray.toList_eq, ba_list, ba_list]
theorem j2_f (L : List UInt8) (T : List (List Int)) (h1 : T.length ≤ 1048576) (h2 : ∀ c ∈ T, c.length ≤ 1048576) {k : Nat} (hk : 3000001 < k) : spec_ParseTests.j2 k (ba L) T = some (fin L T) := by
  obtain ⟨k, rfl⟩ : ∃ q, k = q + 1 := ⟨k - 1, by omega⟩
  simp only [spec_ParseTests.j2]
  rw [wiGood_f 10 T h1 h2 (by omega), Option.bind_some]
  unfold fin
  cases ht : tst 10 T with
  | false => simp
  | true =>
    obtain ⟨t1, t2⟩ := tst_ok ht
    rw [if_pos rfl, wiText_f T (by omega) t2 (by omega), Option.bind_some]
    by_cases he : jn 47 (rows T) = L
    · rw [if_pos (ba_inj.2 he), if_pos ⟨rfl, he⟩]
    · rw [if_neg (fun e => he (ba_inj.1 e)), if_neg (fun e => he e.2)]
theorem rdOf_ba (P : List (List UInt8)) (i : Nat) (h : i < P.length) : rdOf ByteArray.empty (P.map ba) (i : Int) = ba (P[i]'h) := by
  unfold rdOf
  simp [List.getD_eq_getElem?_getD, h]
theorem spec_l1 (x0 : ByteArray) (x4 : List (List Int)) (x17 : List ByteArray) (x18 x19 : Int) (P : List (List UInt8)) (hP : ∀ y ∈ P, y.length ≤ 240) (hx : x4.length ≤ 1000) (hl : P.length ≤ 1000) : ∀ (d i q : Nat) (x7 : List Int), i + d = P.length → 300 < q → x7.length + d ≤ 2000 → spec_ParseTests.l1 (q + d + 1) x0 x4 x7 x17 x18 x19 (P.map ba) (P.length : Int) (i : Int) = spec_ParseTests.l0 q x0 (x4 ++ [x7 ++ (P.drop i).map rdv]) x17 x18 (wrap64 (x19 + 1))
  | 0, i, q, x7, hi, hq, h7 => by
    simp only [spec_ParseTests.l1]
    rw [if_neg (by omega), if_pos (by omega), List.drop_eq_nil_of_le (by omega)]
    simp
  | d + 1, i, q, x7, hi, hq, h7 => by
    have hlt : i < P.length := by omega
    obtain ⟨K, hK⟩ : ∃ K, K = q + (d + 1) := ⟨_, rfl⟩
    have hK2 : K = q + d + 1 := by omega
    have hp := hP _ (List.getElem_mem hlt)
    rw [← hK]
    simp only [spec_ParseTests.l1]
    rw [if_pos (by omega), if_pos (by omega), if_pos (by rw [List.length_map]; omega), rdOf_ba P i hlt, l1Read_f _ (by omega) (by omega), Option.bind_some, if_pos (by omega), up64 hlt (by omega), hK2, spec_l1 x0 x4 x17 x18 x19 P hP hx hl d (i + 1) q _ (by omega) hq (by simp; omega), List.drop_eq_getElem_cons hlt, List.map_cons, List.append_assoc]
    rfl
theorem prow_len (t : List UInt8) : (prow t).length ≤ t.length + 1 := by
  unfold prow
  rw [List.length_map]
  exact sp_len 43 t []
theorem spec_l0 (L : List UInt8) (X : List (List UInt8)) (hX : ∀ y ∈ X, y.length ≤ 240) (hn : X.length ≤ 300) : ∀ (d i k : Nat) (x4 : List (List Int)), i + d = X.length → 4000000 + 1000 * d ≤ k → x4.length + d ≤ 600 → (∀ c ∈ x4, c.length ≤ 1000) → spec_ParseTests.l0 k (ba L) x4 (X.map ba) (X.length : Int) (i : Int) = some (fin L (x4 ++ (X.drop i).map prow))
  | 0, i, k, x4, hi, hk, h4, hc => by
    obtain ⟨k, rfl⟩ : ∃ q, k = q + 1 := ⟨k - 1, by omega⟩
    simp only [spec_ParseTests.l0]
    rw [if_neg (by omega), j2_f L x4 (by omega) (fun c h => by have := hc c h; omega) (by omega), List.drop_eq_nil_of_le (by omega)]
    simp
  | d + 1, i, k, x4, hi, hk, h4, hc => by
    obtain ⟨K, rfl⟩ : ∃ q, k = q + 1 := ⟨k - 1, by omega⟩
    have hlt : i < X.length := by omega
    have hx := hX _ (List.getElem_mem hlt)
    have hs := sp_len 43 (X[i]'hlt) []
    have hz : ∀ y ∈ sp 43 [] (X[i]'hlt), y.length ≤ 240 := fun y hy => by have := sp_size 43 _ _ y hy; simp at this; omega
    obtain ⟨q, hq⟩ : ∃ q, K = q + (sp 43 [] (X[i]'hlt)).length + 1 := ⟨K - (sp 43 [] (X[i]'hlt)).length - 1, by omega⟩
    have hsp := l1Split_f 43 (X[i]'hlt) (by omega) (k := K) (by omega)
    rw [show ((43 : UInt8).toNat : Int) = 43 from rfl] at hsp
    have hb := spec_l1 (ba L) x4 (X.map ba) (X.length : Int) (i : Int) (sp 43 [] (X[i]'hlt)) hz (by omega) (by omega) (sp 43 [] (X[i]'hlt)).length 0 q [] (by omega) (by omega) (by simp; omega)
    rw [show ((0 : Nat) : Int) = 0 from rfl] at hb
    simp only [spec_ParseTests.l0]
    rw [if_pos (by omega), if_pos (by omega), if_pos (by rw [List.length_map]; omega), rdOf_ba X i hlt, hsp, Option.bind_some, List.length_map, hq, hb, up64 hlt (by omega), List.drop_zero, List.nil_append]
    rw [spec_l0 L X hX hn d (i + 1) q _ (by omega) (by omega) (by simp; omega) (fun c h => by
      rcases List.mem_append.1 h with h | h
      · exact hc c h
      · rw [List.mem_singleton] at h
        have := prow_len (X[i]'hlt)
        unfold prow at this
        rw [h]
        omega), List.drop_eq_getElem_cons hlt, List.map_cons, List.append_assoc]
    rfl
theorem spec_f (L : List UInt8) {k : Nat} (hk : 5000000 < k) : spec_ParseTests.f k (ba L) = some (if 240 < L.length then ([], false) else fin L (prs L)) := by
  unfold spec_ParseTests.f
  rw [ba_size]
  by_cases h : 240 < L.length
  · rw [if_pos (by omega), if_pos h]
  · rw [if_neg (by omega), if_neg h]
    by_cases h0 : L = []
    · subst h0
      rw [if_neg (by simp), j2_f [] [] (by simp) (by simp) (by omega)]
      rfl
    · have hpos : 0 < L.length := List.length_pos_iff.2 h0
      have hsp := l1Split_f 47 L (by omega) (k := k) (by omega)
      rw [show ((47 : UInt8).toNat : Int) = 47 from rfl] at hsp
      have hl := sp_len 47 L []
      have hz : ∀ y ∈ sp 47 [] L, y.length ≤ 240 := fun y hy => by have := sp_size 47 _ _ y hy; simp at this; omega
      have hb := spec_l0 L (sp 47 [] L) hz (by omega) (sp 47 [] L).length 0 k [] (by omega) (by omega) (by simp; omega) (by simp)
      rw [show ((0 : Nat) : Int) = 0 from rfl] at hb
      rw [if_pos (by omega), hsp, Option.bind_some, List.length_map, hb]
      unfold prs
      rw [if_neg h0]
      simp
theorem impl_f (L : List UInt8) (hL : L.length ≤ 1048576) {k : Nat} (hk : 5000000 < k) : impl_ParseTests.f k (ba L) = some (if 240 < L.length then ([], false) else fin L (prs L)) := by
  have hsz := ba_size L
  have hpl := parts_len (ba L)
  have hps := parts_size (ba L)
  unfold impl_ParseTests.f
  rw [if_pos ⟨by omega, by omega⟩]
  by_cases h0 : L = []
  · subst h0
    rw [if_pos (by rw [ByteArray.toList_eq, ba_list])]
    rfl
  · rw [if_neg (by rw [ByteArray.toList_eq, ba_list]; exact h0)]
    by_cases hg : ∃ T, tst 10 T = true ∧ jn 47 (rows T) = L
    · obtain ⟨T, ht, rfl⟩ := hg
      obtain ⟨t1, t2⟩ := tst_ok ht
      have hlen := text_len ht
      have hp : impl_ParseTests.parts (ba (jn 47 (rows T))) = (rows T).map ba := by
        cases T with
        | nil => exact absurd rfl h0
        | cons c T =>
          have e : rows (c :: T) = jn 43 (c.map dg) :: rows T := rfl
          unfold impl_ParseTests.parts
          rw [e]
          exact splitB_jn 47 _ _ (fun y hy hb => by
            rw [← e] at hy
            obtain ⟨d, hd, rfl⟩ := List.mem_map.1 hy
            exact (row_byte d (t2 d hd) 47 hb).2 rfl)
      rw [hp, rows_ok T [] t2, Option.bind_some, prs_text t2, if_neg (show ¬ 240 < (jn 47 (rows T)).length by omega), List.nil_append]
      rw [if_pos rfl, areTests_f 10 T (fun c hc => by have := (t2 c hc).2.1; omega), Option.bind_some, ht, if_pos rfl, testsText_f T (by omega) (fun c hc => (t2 c hc).2) (by omega), Option.bind_some, if_pos rfl]
      unfold fin
      rw [if_pos ⟨ht, rfl⟩]
    · have hfin : ∀ T, ¬ (tst 10 T = true ∧ jn 47 (rows T) = L) := fun T h => hg ⟨T, h⟩
      have hr : (if 240 < L.length then (([], false) : List (List Int) × Bool) else fin L (prs L)) = ([], false) := by
        unfold fin
        rw [if_neg (hfin _)]
        split <;> rfl
      rw [hr]
      obtain ⟨t, ht, _⟩ := rows_some (impl_ParseTests.parts (ba L)) [] (fun p hp => by have := hps p hp; omega)
      have hb := rows_bound _ [] t (fun p hp => by have := hps p hp; omega) (by simp) ht
      rw [ht, Option.bind_some]
      split
      · rw [areTests_f 10 t.1 hb, Option.bind_some]
        cases hq : tst 10 t.1 with
        | false => simp
        | true =>
          obtain ⟨t1, t2⟩ := tst_ok hq
          rw [if_pos rfl, testsText_f t.1 (by omega) (fun c hc => (t2 c hc).2) (by omega), Option.bind_some, if_neg (fun e => hfin _ ⟨hq, ba_inj.1 e⟩)]
      · rfl
theorem FnExactParseTests : ∀ (a0 : ByteArray), a0.size ≤ 140737488351232 → ∃ k, laws_FnExactParseTests.f k a0 = some true := by
  intro s _
  refine ⟨5000001, ?_⟩
  unfold laws_FnExactParseTests.f
  by_cases h : 1048576 < s.size
  · rw [if_pos h]
  · rw [if_neg h]
    have hs := ba_of s
    have hz : s.data.toList.length = s.size := by rw [← ba_size, hs]
    generalize s.data.toList = L at hs hz
    subst hs
    rw [spec_f L (by omega), impl_f L (by omega) (by omega)]
    simp only [Option.bind_some]
    have hb : (if 240 < L.length then (([], false) : List (List Int) × Bool) else fin L (prs L)).1.length ≤ 12 ∧ ∀ c ∈ (if 240 < L.length then (([], false) : List (List Int) × Bool) else fin L (prs L)).1, c.length ≤ 10 := by
      split
      · simp
      · unfold fin
        split
        · rename_i h
          exact ⟨(tst_ok h.1).1, fun c hc => ((tst_ok h.1).2 c hc).2.1⟩
        · simp
    have ht : ∀ l : List (List Int), (∀ c ∈ l, c.length ≤ 10) → Aux.tot l ≤ 10 * l.length := by
      intro l hl
      induction l with
      | nil => simp [Aux.tot]
      | cons c l ih =>
        have h1 := ih (fun d hd => hl d (by simp [hd]))
        have h2 := hl c (by simp)
        rw [Aux.tot_cons, List.length_cons]
        omega
    have h3 := ht _ hb.2
    rw [if_pos ⟨trivial, by omega, by omega⟩]

end Go.Proofs.YtbghdbpaihkcjabDoor.Pure
