/- For every number of wires and every two lists of sizes the program's SizesTell and the reference's agree; no conditions. -/
import Derived.Test.YtelhcooeafhgoaaPFnExactSizesTellx9
set_option linter.unusedSimpArgs false
set_option linter.unusedVariables false
namespace Go.Proofs.Ytelhcooeafhgoaa.Pure
open Go.RowKit Go.Proofs.Ytelhcooeafhgoaa.PFnExactSizesTell Go.Proofs.YtelhcooeafhgoaaW.PrintWords Go.Proofs.YtelhcooeafhgoaaW.PrintLast Go.Proofs.YtelhcooeafhgoaaW.PrintMore

theorem w64 {x : Int} (h0 : -9223372036854775808 ≤ x) (h1 : x ≤ 9223372036854775807) : wrap64 x = x := by unfold wrap64; omega
theorem up64 {i n : Nat} (h : i < n) (hn : n ≤ 4611686018427387904) : wrap64 ((i : Int) + 1) = ((i + 1 : Nat) : Int) := by rw [w64 (by omega) (by omega)]; omega
theorem rd_lt {xs : List Int} {i : Nat} (h : i < xs.length) : rd xs (i : Int) = xs[i] := by unfold rd; simp [List.getD_eq_getElem?_getD, h]
theorem eqIntS_l0 (a b : List Int) (hl : a.length = b.length) (hn : a.length ≤ 4611686018427387904) : ∀ (d i k : Nat), i + d = a.length → d < k → laws_eqIntS.l0 k a b (i : Int) = some (decide (a.drop i = b.drop i))
  | 0, i, k, hi, hk => by
    obtain ⟨k, rfl⟩ : ∃ q, k = q + 1 := ⟨k - 1, by omega⟩
    simp only [laws_eqIntS.l0]
    rw [if_neg (by omega), List.drop_eq_nil_of_le (by omega), List.drop_eq_nil_of_le (by omega)]
    simp
  | d + 1, i, k, hi, hk => by
    obtain ⟨k, rfl⟩ : ∃ q, k = q + 1 := ⟨k - 1, by omega⟩
    have ih := eqIntS_l0 a b hl hn d (i + 1) k (by omega) (by omega)
    have ha : i < a.length := by omega
    have hb : i < b.length := by omega
    simp only [laws_eqIntS.l0]
    rw [if_pos (by omega), if_pos (by omega), if_pos (by omega), up64 ha hn, ih, rd_lt ha, rd_lt hb, List.drop_eq_getElem_cons ha, List.drop_eq_getElem_cons hb]
    by_cases e : a[i] = b[i]
    · rw [if_pos e, e]; simp only [List.cons.injEq, true_and]
    · rw [if_neg e]; simp only [List.cons.injEq, e, false_and, decide_false]
theorem eqIntS_f (a b : List Int) (hn : a.length ≤ 4611686018427387904) {k : Nat} (hk : a.length < k) : laws_eqIntS.f k a b = some (decide (a = b)) := by
  unfold laws_eqIntS.f
  by_cases h : a.length = b.length
  · rw [if_pos (by omega)]
    exact eqIntS_l0 a b h hn a.length 0 k (by omega) hk
  · rw [if_neg (by omega), decide_eq_false (fun e => h (by rw [e]))]
theorem toIntS_l0 (a : List Int) (hn : a.length ≤ 4611686018427387904) : ∀ (d i k : Nat), i + d = a.length → d < k → laws_toIntS.l0 k a (a.take i ++ List.replicate d 0) (i : Int) = some a
  | 0, i, k, hi, hk => by
    obtain ⟨k, rfl⟩ : ∃ q, k = q + 1 := ⟨k - 1, by omega⟩
    simp only [laws_toIntS.l0]
    rw [if_neg (by omega), List.take_of_length_le (by omega)]
    simp
  | d + 1, i, k, hi, hk => by
    obtain ⟨k, rfl⟩ : ∃ q, k = q + 1 := ⟨k - 1, by omega⟩
    have ih := toIntS_l0 a hn d (i + 1) k (by omega) (by omega)
    have ha : i < a.length := by omega
    simp only [laws_toIntS.l0]
    rw [if_pos (by omega), if_pos (by omega), if_pos (by simp; omega), up64 ha hn, rd_lt ha]
    have he : (a.take i ++ List.replicate (d + 1) (0 : Int)).set ((i : Nat) : Int).toNat a[i] = a.take (i + 1) ++ List.replicate d 0 := by
      rw [List.set_append_right _ _ (by simp; omega), List.replicate_succ]
      have e : ((i : Nat) : Int).toNat - (a.take i).length = 0 := by simp; omega
      rw [e, List.set_cons_zero, List.take_succ_eq_append_getElem ha]
      simp only [List.append_assoc, List.singleton_append]
    rw [he]
    exact ih
theorem toIntS_f (a : List Int) (hn : a.length ≤ 1048576) {k : Nat} (hk : a.length < k) : laws_toIntS.f k a = some a := by
  unfold laws_toIntS.f
  rw [if_pos (by omega), if_pos (by omega)]
  exact toIntS_l0 a (by omega) a.length 0 k (by omega) hk
theorem equal_l0 (a b : List Int) (hl : a.length = b.length) (hn : a.length ≤ 4611686018427387904) : ∀ (d i k : Nat), i + d = a.length → d < k → slices_Equal_int_int.l0 k a b (a.length : Int) (i : Int) = some (decide (a.drop i = b.drop i))
  | 0, i, k, hi, hk => by
    obtain ⟨k, rfl⟩ : ∃ q, k = q + 1 := ⟨k - 1, by omega⟩
    simp only [slices_Equal_int_int.l0]
    rw [if_neg (by omega), List.drop_eq_nil_of_le (by omega), List.drop_eq_nil_of_le (by omega)]
    simp
  | d + 1, i, k, hi, hk => by
    obtain ⟨k, rfl⟩ : ∃ q, k = q + 1 := ⟨k - 1, by omega⟩
    have ih := equal_l0 a b hl hn d (i + 1) k (by omega) (by omega)
    have ha : i < a.length := by omega
    have hb : i < b.length := by omega
    simp only [slices_Equal_int_int.l0]
    rw [if_pos (by omega), if_pos (by omega), if_pos (by omega), if_pos (by omega), up64 ha hn, ih, rd_lt ha, rd_lt hb, List.drop_eq_getElem_cons ha, List.drop_eq_getElem_cons hb]
    by_cases e : a[i] = b[i]
    · rw [if_pos e, e]; simp only [List.cons.injEq, true_and]
    · rw [if_neg e]; simp only [List.cons.injEq, e, false_and, decide_false]
theorem equal_f (a b : List Int) (hn : a.length ≤ 4611686018427387904) {k : Nat} (hk : a.length < k) : slices_Equal_int_int.f k a b = some (decide (a = b)) := by
  unfold slices_Equal_int_int.f
  by_cases h : a.length = b.length
  · rw [if_pos (by omega)]
    exact equal_l0 a b h hn a.length 0 k (by omega) hk
  · rw [if_neg (by omega), decide_eq_false (fun e => h (by rw [e]))]
/-- The number of groups, where n have been met. -/
def nx : Nat → List Int → Nat
  | n, [] => n
  | n, x :: l => nx (if x = (n : Int) then n + 1 else n) l
/-- Are these groups in the order in which they come, where n have been met? -/
def rg : Nat → List Int → Bool
  | _, [] => true
  | n, x :: l => decide (0 ≤ x) && decide (x ≤ (n : Int)) && rg (if x = (n : Int) then n + 1 else n) l
theorem nx_ge (l : List Int) : ∀ n, n ≤ nx n l := by
  induction l with
  | nil => intro n; exact Nat.le_refl _
  | cons x l ih =>
    intro n
    simp only [nx]
    split
    · exact Nat.le_trans (Nat.le_succ _) (ih _)
    · exact ih _
theorem nx_le (l : List Int) : ∀ n, nx n l ≤ n + l.length := by
  induction l with
  | nil => intro n; simp [nx]
  | cons x l ih =>
    intro n
    simp only [nx, List.length_cons]
    split
    · have := ih (n + 1); omega
    · have := ih n; omega
theorem rg_lt (l : List Int) : ∀ n, rg n l = true → ∀ x ∈ l, 0 ≤ x ∧ x < (nx n l : Int) := by
  induction l with
  | nil => intro n _ x hx; cases hx
  | cons y l ih =>
    intro n h x hx
    simp only [rg, Bool.and_eq_true, decide_eq_true_eq] at h
    obtain ⟨⟨h0, h1⟩, h2⟩ := h
    simp only [nx]
    rcases List.mem_cons.1 hx with rfl | hx
    · refine ⟨h0, ?_⟩
      split
      · have := nx_ge l (n + 1); omega
      · have := nx_ge l n; omega
    · exact ih _ h2 x hx
theorem nx_append (a b : List Int) : ∀ n, nx n (a ++ b) = nx (nx n a) b := by
  induction a with
  | nil => intro n; rfl
  | cons x l ih => intro n; simp only [List.cons_append, nx]; exact ih _
theorem rg_append (a b : List Int) : ∀ n, rg n (a ++ b) = (rg n a && rg (nx n a) b) := by
  induction a with
  | nil => intro n; simp [rg, nx]
  | cons x l ih => intro n; simp only [List.cons_append, nx, rg, ih, Bool.and_assoc]
/-- The places before i at which g stands. -/
def pos (l : List Int) (i : Nat) (g : Int) : List Int := ((List.range i).filter (fun j => l.getD j 0 == g)).map (fun (j : Nat) => (j : Int))
def grp (l : List Int) (m i : Nat) : List (List Int) := (List.range m).map (fun (g : Nat) => pos l i (g : Int))
/-- The places of each group. -/
def groups (l : List Int) : List (List Int) := grp l (nx 0 l) l.length
theorem pos_succ (l : List Int) {i : Nat} (h : i < l.length) (g : Int) : pos l (i + 1) g = pos l i g ++ if l[i] = g then [(i : Int)] else [] := by
  unfold pos
  rw [List.range_succ, List.filter_append, List.map_append]
  congr 1
  have e : l.getD i 0 = l[i] := by simp [List.getD_eq_getElem?_getD, h]
  simp only [List.filter_cons, e, List.filter_nil]
  by_cases hg : l[i] = g <;> simp [hg]
theorem pos_le (l : List Int) (i : Nat) (g : Int) : (pos l i g).length ≤ i := by
  unfold pos
  rw [List.length_map]
  exact Nat.le_trans (List.length_filter_le _ _) (by simp)
theorem grp_len (l : List Int) (m i : Nat) : (grp l m i).length = m := by simp [grp]
theorem grp_rd (l : List Int) {m i g : Nat} (h : g < m) : rd_L1 (grp l m i) (g : Int) = pos l i (g : Int) := by
  unfold rd_L1 grp
  simp [List.getD_eq_getElem?_getD, h]
theorem grp_set (l : List Int) {m i g : Nat} (hi : i < l.length) (hg : g < m) (e : l[i] = (g : Int)) : (grp l m i).set g (pos l i (g : Int) ++ [(i : Int)]) = grp l m (i + 1) := by
  apply List.ext_getElem
  · simp [grp]
  · intro n h1 h2
    simp only [grp_len, List.length_set] at h1 h2
    rw [List.getElem_set]
    simp only [grp, List.getElem_map, List.getElem_range]
    rw [pos_succ l hi]
    by_cases hn : g = n
    · subst hn; simp [e]
    · rw [if_neg hn, if_neg (by omega)]; simp
theorem grp_more (l : List Int) {m i : Nat} (hi : i ≤ l.length) (h : ∀ x ∈ l.take i, x < (m : Int)) : grp l m i ++ [[]] = grp l (m + 1) i := by
  unfold grp
  rw [List.range_succ, List.map_append]
  congr 1
  simp only [List.map_cons, List.map_nil, List.cons.injEq, and_true]
  unfold pos
  symm
  rw [List.map_eq_nil_iff, List.filter_eq_nil_iff]
  intro j hj
  rw [List.mem_range] at hj
  have hj2 : j < l.length := by omega
  have := h l[j] (by rw [List.mem_take_iff_getElem]; exact ⟨j, by omega, rfl⟩)
  simp only [List.getD_eq_getElem?_getD, List.getElem?_eq_getElem hj2, Option.getD_some, beq_iff_eq]
  omega
theorem rg_take {l : List Int} (h : rg 0 l = true) (i : Nat) : rg 0 (l.take i) = true ∧ rg (nx 0 (l.take i)) (l.drop i) = true ∧ nx (nx 0 (l.take i)) (l.drop i) = nx 0 l := by
  have h1 : l.take i ++ l.drop i = l := List.take_append_drop i l
  have h2 := rg_append (l.take i) (l.drop i) 0
  have h3 := nx_append (l.take i) (l.drop i) 0
  rw [h1] at h2 h3
  rw [h2, Bool.and_eq_true] at h
  exact ⟨h.1, h.2, h3.symm⟩
theorem nx_take_succ (l : List Int) {i : Nat} (h : i < l.length) : nx 0 (l.take (i + 1)) = if l[i] = (nx 0 (l.take i) : Int) then nx 0 (l.take i) + 1 else nx 0 (l.take i) := by
  rw [List.take_succ_eq_append_getElem h, nx_append]
  simp [nx]
theorem cbGroups_l0 (l : List Int) (hn : l.length ≤ 4000000) (hr : rg 0 l = true) : ∀ (d i k : Nat), i + d = l.length → d < k → spec_cbGroups.l0 k (grp l (nx 0 (l.take i)) i) l (l.length : Int) (i : Int) = some (groups l)
  | 0, i, k, hi, hk => by
    obtain ⟨k, rfl⟩ : ∃ q, k = q + 1 := ⟨k - 1, by omega⟩
    simp only [spec_cbGroups.l0]
    rw [if_neg (by omega), List.take_of_length_le (by omega)]
    unfold groups
    rw [show i = l.length by omega]
  | d + 1, i, k, hi, hk => by
    obtain ⟨k, rfl⟩ : ∃ q, k = q + 1 := ⟨k - 1, by omega⟩
    have ha : i < l.length := by omega
    have ih := cbGroups_l0 l hn hr d (i + 1) k (by omega) (by omega)
    obtain ⟨t1, t2, t3⟩ := rg_take hr i
    have hle : nx 0 (l.take i) ≤ i := by have := nx_le (l.take i) 0; simp at this; omega
    rw [nx_take_succ l ha] at ih
    rw [List.drop_eq_getElem_cons ha] at t2
    simp only [rg, Bool.and_eq_true, decide_eq_true_eq] at t2
    obtain ⟨⟨g0, g1⟩, _⟩ := t2
    have hp := pos_le l i l[i]
    simp only [spec_cbGroups.l0]
    rw [if_pos (by omega), if_pos (by omega), if_pos (by omega), rd_lt ha, grp_len, up64 ha (by omega)]
    obtain ⟨g, eg⟩ : ∃ g : Nat, l[i] = (g : Int) := ⟨l[i].toNat, by omega⟩
    by_cases e : l[i] = (nx 0 (l.take i) : Int)
    · have hall : ∀ x ∈ l.take i, x < ((nx 0 (l.take i) : Nat) : Int) := fun x hx => (rg_lt _ 0 t1 x hx).2
      have hgn : g = nx 0 (l.take i) := by omega
      rw [if_pos e] at ih
      rw [if_pos e, if_pos (by omega)]
      simp only [Option.bind_some]
      rw [grp_more l (by omega) hall, grp_len, eg, if_pos (by omega), if_pos (by omega), grp_rd l (by omega), if_pos (by rw [← eg]; omega), Int.toNat_natCast, grp_set l ha (by omega) eg]
      exact ih
    · rw [if_neg e] at ih
      rw [if_neg e, eg, if_pos (by omega), if_pos (by omega), grp_rd l (by omega), if_pos (by rw [← eg]; omega), Int.toNat_natCast, grp_set l ha (by omega) eg]
      exact ih
theorem cbGroups_f (l : List Int) (hn : l.length ≤ 4000000) (hr : rg 0 l = true) {k : Nat} (hk : l.length < k) : spec_cbGroups.f k l = some (groups l) := by
  have := cbGroups_l0 l hn hr l.length 0 k (by omega) hk
  unfold spec_cbGroups.f
  simpa [grp, nx] using this
theorem max_l0 (l : List Int) (hn : l.length ≤ 4000000) : ∀ (d i k : Nat) (m : Int), i + d = l.length → d < k → slices_Max_int_int.l0 k l m (i : Int) = some ((l.drop i).foldl mx m)
  | 0, i, k, m, hi, hk => by
    obtain ⟨k, rfl⟩ : ∃ q, k = q + 1 := ⟨k - 1, by omega⟩
    simp only [slices_Max_int_int.l0]
    rw [if_neg (by omega), List.drop_eq_nil_of_le (by omega)]
    rfl
  | d + 1, i, k, m, hi, hk => by
    obtain ⟨k, rfl⟩ : ∃ q, k = q + 1 := ⟨k - 1, by omega⟩
    have ha : i < l.length := by omega
    simp only [slices_Max_int_int.l0]
    rw [if_pos (by omega), if_pos (by omega), rd_lt ha, up64 ha (by omega), List.drop_eq_getElem_cons ha, List.foldl_cons]
    exact max_l0 l hn d (i + 1) k _ (by omega) (by omega)
theorem max_nx (l : List Int) : ∀ (n : Nat), 1 ≤ n → rg n l = true → l.foldl mx ((n : Int) - 1) = (nx n l : Int) - 1 := by
  induction l with
  | nil => intro n _ _; rfl
  | cons x l ih =>
    intro n hn h
    simp only [rg, Bool.and_eq_true, decide_eq_true_eq] at h
    obtain ⟨⟨h0, h1⟩, h2⟩ := h
    rw [List.foldl_cons]
    simp only [nx]
    by_cases e : x = (n : Int)
    · rw [if_pos e] at h2 ⊢
      have e2 : mx ((n : Int) - 1) x = ((n + 1 : Nat) : Int) - 1 := by unfold mx; rw [if_pos (by omega)]; omega
      rw [e2]
      exact ih (n + 1) (by omega) h2
    · rw [if_neg e] at h2 ⊢
      have e2 : mx ((n : Int) - 1) x = (n : Int) - 1 := by unfold mx; rw [if_neg (by omega)]
      rw [e2]
      exact ih n hn h2
theorem max_f (l : List Int) (hn : l.length ≤ 4000000) (h1 : 1 ≤ l.length) (hr : rg 0 l = true) {k : Nat} (hk : l.length < k) : slices_Max_int_int.f k l = some ((nx 0 l : Int) - 1) := by
  cases l with
  | nil => simp at h1
  | cons x l =>
    simp only [rg, Bool.and_eq_true, decide_eq_true_eq] at hr
    obtain ⟨⟨h2, h3⟩, h4⟩ := hr
    have hx : x = 0 := by omega
    subst hx
    unfold slices_Max_int_int.f
    rw [if_neg (by simp only [List.length_cons]; omega), if_pos (by simp only [List.length_cons]; omega)]
    have e : rd ((0 : Int) :: l) 0 = 0 := rfl
    have := max_l0 ((0 : Int) :: l) hn (((0 : Int) :: l).length - 1) 1 k 0 (by simp only [List.length_cons]; omega) (by omega)
    rw [e]
    rw [show ((1 : Nat) : Int) = 1 from rfl] at this
    rw [this]
    have h5 := max_nx l 1 (by omega) (by simpa using h4)
    simpa [nx] using h5
theorem groupsOf_l0 (l : List Int) (hn : l.length ≤ 4000000) (m : Nat) (hm : ∀ x ∈ l, 0 ≤ x ∧ x < (m : Int)) : ∀ (d i k : Nat), i + d = l.length → d < k → impl_groupsOf.l0 k (grp l m i) l (l.length : Int) (i : Int) = some (grp l m l.length)
  | 0, i, k, hi, hk => by
    obtain ⟨k, rfl⟩ : ∃ q, k = q + 1 := ⟨k - 1, by omega⟩
    simp only [impl_groupsOf.l0]
    rw [if_neg (by omega), show i = l.length by omega]
  | d + 1, i, k, hi, hk => by
    obtain ⟨k, rfl⟩ : ∃ q, k = q + 1 := ⟨k - 1, by omega⟩
    have ha : i < l.length := by omega
    have ih := groupsOf_l0 l hn m hm d (i + 1) k (by omega) (by omega)
    obtain ⟨g0, g1⟩ := hm l[i] (List.getElem_mem ha)
    have hp := pos_le l i l[i]
    simp only [impl_groupsOf.l0]
    rw [if_pos (by omega), if_pos (by omega), if_pos (by omega), rd_lt ha, grp_len, up64 ha (by omega)]
    obtain ⟨g, eg⟩ : ∃ g : Nat, l[i] = (g : Int) := ⟨l[i].toNat, by omega⟩
    rw [eg, if_pos (by omega), if_pos (by omega), grp_rd l (by omega), if_pos (by rw [← eg]; omega), Int.toNat_natCast, grp_set l ha (by omega) eg]
    exact ih
theorem groupsOf_f (l : List Int) (hn : l.length ≤ 4000000) (h1 : 1 ≤ l.length) (hr : rg 0 l = true) {k : Nat} (hk : l.length < k) : impl_groupsOf.f k l = some (groups l) := by
  have hle := nx_le l 0
  have hm := fun x hx => rg_lt l 0 hr x hx
  unfold impl_groupsOf.f
  rw [max_f l hn h1 hr hk]
  simp only [Option.bind_some]
  rw [w64 (by omega) (by omega), show (nx 0 l : Int) - 1 + 1 = (nx 0 l : Int) by omega, if_pos (by omega), if_pos (by omega), Int.toNat_natCast]
  have := groupsOf_l0 l hn (nx 0 l) hm l.length 0 k (by omega) hk
  have e : grp l (nx 0 l) 0 = List.replicate (nx 0 l) [] := by
    unfold grp pos
    simp
    rw [List.eq_replicate_iff]
    simp
  rw [e] at this
  exact this
theorem groups_tot (l : List Int) (h : rg 0 l = true) : (groups l).length ≤ l.length ∧ ∀ x ∈ groups l, x.length ≤ l.length := by
  have hle := nx_le l 0
  refine ⟨by unfold groups; rw [grp_len]; omega, fun x hx => ?_⟩
  unfold groups grp at hx
  obtain ⟨g, _, rfl⟩ := List.mem_map.1 hx
  exact pos_le _ _ _
def szg (l : List Int) (g : Int) : Int := ((pos l l.length g).length : Int)
/-- In how great a group each one is. -/
def sizes (l : List Int) : List Int := l.map (szg l)
theorem sizes_len (l : List Int) : (sizes l).length = l.length := by simp [sizes]
def setAll (o xs : List Int) (v : Int) : List Int := xs.foldl (fun o x => o.set x.toNat v) o
theorem setAll_len (xs : List Int) (v : Int) : ∀ o, (setAll o xs v).length = o.length := by
  induction xs with
  | nil => intro o; rfl
  | cons x xs ih => intro o; simp only [setAll, List.foldl_cons] at ih ⊢; rw [ih]; simp
theorem setAll_get (xs : List Int) (v : Int) : ∀ (o : List Int) (i : Nat), (∀ x ∈ xs, 0 ≤ x) → (setAll o xs v)[i]? = if (i : Int) ∈ xs ∧ i < o.length then some v else o[i]? := by
  induction xs with
  | nil => intro o i _; simp [setAll]
  | cons x xs ih =>
    intro o i h
    have hx := h x List.mem_cons_self
    have := ih (o.set x.toNat v) i (fun y hy => h y (List.mem_cons_of_mem _ hy))
    simp only [setAll, List.foldl_cons] at this ⊢
    rw [this, List.length_set, List.getElem?_set]
    by_cases h1 : (i : Int) ∈ xs
    · by_cases h2 : i < o.length
      · simp [h1, h2]
      · have e : o[i]? = none := List.getElem?_eq_none (by omega)
        simp [h1, h2]
        intro h3
        omega
    · by_cases h3 : (i : Int) = x
      · have e : x.toNat = i := by omega
        by_cases h2 : i < o.length
        · simp [h3, h1, e, h2]
        · have e2 : o[i]? = none := List.getElem?_eq_none (by omega)
          simp [h1, e, h2, e2]
      · rw [if_neg (by simp [h1]), if_neg (by omega), if_neg (by simp [h1, h3])]
theorem pos_mem (l : List Int) (g : Int) (i : Nat) : (i : Int) ∈ pos l l.length g ↔ i < l.length ∧ l.getD i 0 = g := by
  unfold pos
  simp only [List.mem_map, List.mem_filter, List.mem_range, beq_iff_eq]
  constructor
  · rintro ⟨j, ⟨h1, h2⟩, h3⟩
    have : j = i := by omega
    subst this
    exact ⟨h1, h2⟩
  · rintro ⟨h1, h2⟩
    exact ⟨i, ⟨h1, h2⟩, rfl⟩
theorem pos_nonneg (l : List Int) (i : Nat) (g x : Int) (h : x ∈ pos l i g) : 0 ≤ x ∧ x < i := by
  unfold pos at h
  simp only [List.mem_map, List.mem_filter, List.mem_range] at h
  obtain ⟨j, ⟨h1, _⟩, rfl⟩ := h
  omega
theorem setAll_step (l : List Int) (g : Nat) : setAll (l.map fun x => if x < (g : Int) then szg l x else 0) (pos l l.length (g : Int)) (szg l (g : Int)) = l.map fun x => if x < ((g + 1 : Nat) : Int) then szg l x else 0 := by
  apply List.ext_getElem?
  intro i
  rw [setAll_get _ _ _ _ (fun x hx => (pos_nonneg _ _ _ _ hx).1)]
  simp only [pos_mem, List.length_map, List.getElem?_map]
  by_cases h : i < l.length
  · have e : l.getD i 0 = l[i] := by simp [List.getD_eq_getElem?_getD, h]
    rw [e]
    by_cases h2 : l[i] = (g : Int)
    · rw [if_pos ⟨⟨h, h2⟩, h⟩, List.getElem?_eq_getElem h, Option.map_some, h2, if_pos (by omega)]
    · rw [if_neg (fun h3 => h2 h3.1.2), List.getElem?_eq_getElem h, Option.map_some, Option.map_some]
      by_cases h3 : l[i] < (g : Int)
      · rw [if_pos h3, if_pos (by omega)]
      · rw [if_neg h3, if_neg (by omega)]
  · rw [if_neg (fun h3 => h h3.2)]
    simp [List.getElem?_eq_none (Nat.le_of_not_lt h)]
theorem sizeOfEach_l1 (own : List Int) (gs : List (List Int)) (y : Int) (v : Int) (g : Int) : ∀ (d j k : Nat) (o : List Int), j + d = own.length → own.length ≤ 4000000 → (∀ x ∈ own, 0 ≤ x ∧ x < o.length) → ((own.length : Int) = v) →
    impl_sizeOfEach.l1 (k + d + 1) o own gs y g own (own.length : Int) (j : Int) = impl_sizeOfEach.l0 k (setAll o (own.drop j) v) gs y (wrap64 (g + 1))
  | 0, j, k, o, hi, hn, hx, hv => by
    simp only [impl_sizeOfEach.l1, Nat.add_zero]
    rw [if_neg (by omega), List.drop_eq_nil_of_le (by omega)]
    rfl
  | d + 1, j, k, o, hi, hn, hx, hv => by
    have ha : j < own.length := by omega
    have h := hx own[j] (List.getElem_mem ha)
    have ih := sizeOfEach_l1 own gs y v g d (j + 1) k (o.set own[j].toNat v) (by omega) hn (fun x hx' => by rw [List.length_set]; exact hx x hx') hv
    rw [show k + (d + 1) + 1 = (k + d + 1) + 1 by omega]
    obtain ⟨q, hq⟩ : ∃ q, k + d + 1 = q := ⟨_, rfl⟩
    rw [hq]
    simp only [impl_sizeOfEach.l1]
    rw [if_pos (by omega), if_pos (by omega), if_pos (by omega), rd_lt ha, if_pos h.1, if_pos h.2, up64 ha (by omega)]
    rw [hq] at ih
    rw [← hv] at ih ⊢
    rw [ih, List.drop_eq_getElem_cons ha]
    rfl
theorem sizeOfEach_l0 (l : List Int) (hn : l.length ≤ 1000) (m : Nat) (hm : ∀ x ∈ l, 0 ≤ x ∧ x < (m : Int)) (hm2 : m ≤ 1000) (d : Nat) : ∀ (g : Nat), g + d = m → ∀ k, d * (l.length + 2) < k → impl_sizeOfEach.l0 k (l.map fun x => if x < (g : Int) then szg l x else 0) (grp l m l.length) (m : Int) (g : Int) = some (sizes l) := by
  induction d with
  | zero =>
    intro g hi k hk
    obtain ⟨k, rfl⟩ : ∃ q, k = q + 1 := ⟨k - 1, by omega⟩
    simp only [impl_sizeOfEach.l0]
    rw [if_neg (by omega)]
    congr 1
    unfold sizes
    apply List.map_congr_left
    intro x hx
    rw [if_pos (by have := (hm x hx).2; omega)]
  | succ d ih0 =>
    intro g hi k hk
    rw [Nat.succ_mul] at hk
    obtain ⟨k, rfl⟩ : ∃ q, k = q + 1 := ⟨k - 1, by omega⟩
    have hg : g < m := by omega
    have hp := pos_le l l.length (g : Int)
    obtain ⟨k2, hk2⟩ : ∃ q, k = q + (pos l l.length (g : Int)).length + 1 := ⟨k - (pos l l.length (g : Int)).length - 1, by omega⟩
    have e0 : g + 1 + d = m := by omega
    have e1 : d * (l.length + 2) < k2 := by omega
    have ih := ih0 (g + 1) e0 k2 e1
    have h1 := sizeOfEach_l1 (pos l l.length (g : Int)) (grp l m l.length) (m : Int) (szg l (g : Int)) (g : Int) (pos l l.length (g : Int)).length 0 k2 (l.map fun x => if x < (g : Int) then szg l x else 0) (by omega) (by omega) (fun x hx => by have := pos_nonneg _ _ _ _ hx; rw [List.length_map]; omega) rfl
    rw [List.drop_zero, setAll_step, up64 hg (by omega), ih, show ((0 : Nat) : Int) = 0 from rfl, ← hk2] at h1
    clear hk2 ih
    simp only [impl_sizeOfEach.l0]
    rw [if_pos (by omega), if_pos (by omega), if_pos (by rw [grp_len]; omega), grp_rd l hg]
    exact h1
theorem sizeOfEach_f (l : List Int) (hn : l.length ≤ 1000) (h1 : 1 ≤ l.length) (hr : rg 0 l = true) {k : Nat} (hk : 2000000 < k) : impl_sizeOfEach.f k l = some (sizes l) := by
  have hle := nx_le l 0
  have hm := fun x hx => rg_lt l 0 hr x hx
  have hb : nx 0 l * (l.length + 2) ≤ 1000 * 1002 := Nat.mul_le_mul (by omega) (by omega)
  unfold impl_sizeOfEach.f
  rw [if_pos (by omega), if_pos (by omega), groupsOf_f l (by omega) h1 hr (by omega)]
  simp only [Option.bind_some, groups, grp_len]
  have h := sizeOfEach_l0 l hn (nx 0 l) hm (by omega) (nx 0 l) 0 (by omega) k (by omega)
  have e : (l.map fun x => if x < ((0 : Nat) : Int) then szg l x else 0) = List.replicate ((l.length : Int)).toNat 0 := by
    rw [List.eq_replicate_iff]
    refine ⟨by simp, fun b hb => ?_⟩
    obtain ⟨x, hx, rfl⟩ := List.mem_map.1 hb
    rw [if_neg (by have := (hm x hx).1; omega)]
  rw [e] at h
  exact h
theorem sizes_pos (l : List Int) : ∀ x ∈ sizes l, 1 ≤ x ∧ x ≤ l.length := by
  intro x hx
  unfold sizes at hx
  obtain ⟨g, hg, rfl⟩ := List.mem_map.1 hx
  unfold szg
  have h1 := pos_le l l.length g
  obtain ⟨j, hj, e⟩ := List.mem_iff_getElem.1 hg
  have h2 := (pos_mem l g j).2 ⟨hj, by simp [List.getD_eq_getElem?_getD, hj, e]⟩
  have := List.length_pos_of_mem h2
  omega
theorem sizes_rd (l : List Int) {i : Nat} (h : i < l.length) : rd (sizes l) (i : Int) = szg l l[i] := by
  rw [rd_lt (by rw [sizes_len]; exact h)]
  simp [sizes]
theorem cbSize_f (l : List Int) (hn : l.length ≤ 4000000) (hr : rg 0 l = true) {i : Nat} (hi : i < l.length) {k : Nat} (hk : l.length < k) : spec_cbSize.f k l (i : Int) = some (rd (sizes l) (i : Int)) := by
  have hm := rg_lt l 0 hr l[i] (List.getElem_mem hi)
  obtain ⟨g, eg⟩ : ∃ g : Nat, l[i] = (g : Int) := ⟨l[i].toNat, by omega⟩
  unfold spec_cbSize.f
  rw [cbGroups_f l hn hr hk]
  simp only [Option.bind_some]
  rw [if_pos (by omega), if_pos (by omega), rd_lt hi, eg, if_pos (by omega), if_pos (by rw [groups, grp_len]; omega), groups, grp_rd l (by omega), sizes_rd l hi, eg]
  rfl
/-- The labels: of each wire how great its groups are. -/
def labs (a b : List Int) : List (List Int) := (List.range a.length).map fun (i : Nat) => [rd (sizes a) (i : Int), rd (sizes b) (i : Int)]
theorem labs_len (a b : List Int) : (labs a b).length = a.length := by simp [labs]
def labs' (a b : List Int) (i : Nat) : List (List Int) := (List.range i).map fun (i : Nat) => [rd (sizes a) (i : Int), rd (sizes b) (i : Int)]
theorem labs'_succ (a b : List Int) (i : Nat) : labs' a b (i + 1) = labs' a b i ++ [[rd (sizes a) (i : Int), rd (sizes b) (i : Int)]] := by simp [labs', List.range_succ]
theorem cbLabels_l0 (a b : List Int) (hn : a.length ≤ 4000000) (hl : a.length = b.length) (ha : rg 0 a = true) (hb : rg 0 b = true) : ∀ (d i k : Nat), i + d = a.length → d + a.length + 1 < k → spec_cbLabels.l0 k a b (labs' a b i) (a.length : Int) (i : Int) = some (labs a b)
  | 0, i, k, hi, hk => by
    obtain ⟨k, rfl⟩ : ∃ q, k = q + 1 := ⟨k - 1, by omega⟩
    simp only [spec_cbLabels.l0]
    rw [if_neg (by omega), show i = a.length by omega]
    rfl
  | d + 1, i, k, hi, hk => by
    obtain ⟨k, rfl⟩ : ∃ q, k = q + 1 := ⟨k - 1, by omega⟩
    have h1 : i < a.length := by omega
    simp only [spec_cbLabels.l0]
    rw [if_pos (by omega), cbSize_f a hn ha h1 (by omega), cbSize_f b (by omega) hb (by omega) (by omega)]
    simp only [Option.bind_some]
    rw [if_pos (by simp [labs']; omega), up64 h1 (by omega), ← labs'_succ]
    exact cbLabels_l0 a b hn hl ha hb d (i + 1) k (by omega) (by omega)
theorem cbLabels_f (a b : List Int) (hn : a.length ≤ 4000000) (hl : a.length = b.length) (ha : rg 0 a = true) (hb : rg 0 b = true) {k : Nat} (hk : 2 * a.length + 1 < k) : spec_cbLabels.f k a b = some (labs a b) :=
  cbLabels_l0 a b hn hl ha hb a.length 0 k (by omega) (by omega)
theorem l1Same_l0 (a b : List Int) (hl : a.length = b.length) (hn : a.length ≤ 4611686018427387904) : ∀ (d i k : Nat), i + d = a.length → d < k → spec_l1Same.l0 k a b (a.length : Int) (i : Int) = some (decide (a.drop i = b.drop i))
  | 0, i, k, hi, hk => by
    obtain ⟨k, rfl⟩ : ∃ q, k = q + 1 := ⟨k - 1, by omega⟩
    simp only [spec_l1Same.l0]
    rw [if_neg (by omega), List.drop_eq_nil_of_le (by omega), List.drop_eq_nil_of_le (by omega)]
    simp
  | d + 1, i, k, hi, hk => by
    obtain ⟨k, rfl⟩ : ∃ q, k = q + 1 := ⟨k - 1, by omega⟩
    have ih := l1Same_l0 a b hl hn d (i + 1) k (by omega) (by omega)
    have ha : i < a.length := by omega
    have hb : i < b.length := by omega
    simp only [spec_l1Same.l0]
    rw [if_pos (by omega), if_pos (by omega), if_pos (by omega), if_pos (by omega), up64 ha hn, ih, rd_lt ha, rd_lt hb, List.drop_eq_getElem_cons ha, List.drop_eq_getElem_cons hb]
    by_cases e : a[i] = b[i]
    · rw [if_pos e, e]; simp only [List.cons.injEq, true_and]
    · rw [if_neg e]; simp only [List.cons.injEq, e, false_and, decide_false]
theorem l1Same_f (a b : List Int) (hn : a.length ≤ 4611686018427387904) {k : Nat} (hk : a.length < k) : spec_l1Same.f k a b = some (decide (a = b)) := by
  unfold spec_l1Same.f
  by_cases h : a.length = b.length
  · rw [if_pos (by omega)]
    exact l1Same_l0 a b h hn a.length 0 k (by omega) hk
  · rw [if_neg (by omega), decide_eq_false (fun e => h (by rw [e]))]
/-- Have the wires i and j one label? -/
def sm (L : List (List Int)) (i j : Nat) : Bool := decide (L.getD i [] = L.getD j [])
/-- The wires before n with i's label, i ahead. -/
def lk (L : List (List Int)) (i n : Nat) : List Int := (i : Int) :: ((List.range n).filter (fun j => decide (i < j) && sm L i j)).map (fun (j : Nat) => (j : Int))
/-- Is none before n elder, with i's label? -/
def frst (L : List (List Int)) (i n : Nat) : Bool := (List.range n).all (fun j => !(decide (j < i) && sm L i j))
/-- The wires with the same label. -/
def likes' (L : List (List Int)) (m : Nat) : List (List Int) := ((List.range m).filter (fun i => frst L i L.length && decide (1 < (lk L i L.length).length))).map (fun i => lk L i L.length)
def likes (L : List (List Int)) : List (List Int) := likes' L L.length
theorem lk_succ (L : List (List Int)) (i n : Nat) : lk L i (n + 1) = if i < n ∧ sm L i n = true then lk L i n ++ [(n : Int)] else lk L i n := by
  unfold lk
  rw [List.range_succ, List.filter_append, List.map_append]
  by_cases h : i < n ∧ sm L i n = true
  · rw [if_pos h]; simp [h.1, h.2]
  · rw [if_neg h]
    have : (decide (i < n) && sm L i n) = false := by simpa using h
    simp [this]
theorem frst_succ (L : List (List Int)) (i n : Nat) : frst L i (n + 1) = (frst L i n && !(decide (n < i) && sm L i n)) := by
  unfold frst
  rw [List.range_succ, List.all_append]
  simp
theorem lk_le (L : List (List Int)) (i n : Nat) : (lk L i n).length ≤ n + 1 := by
  unfold lk
  rw [List.length_cons, List.length_map]
  have := List.length_filter_le (fun j => decide (i < j) && sm L i j) (List.range n)
  simp at this
  omega
theorem rdL_lt {L : List (List Int)} {i : Nat} : rd_L1 L (i : Int) = L.getD i [] := by unfold rd_L1; simp
theorem cbLike_l1 (L : List (List Int)) (hn : L.length ≤ 1000) (hx : ∀ x ∈ L, x.length ≤ 1000) (out : List (List Int)) (i : Nat) (hi : i < L.length) : ∀ (d j k : Nat), j + d = L.length → 1000 < k →
    spec_cbLike.l1 (k + d + 1) L out (i : Int) (lk L i j) (frst L i j) (L.length : Int) (i : Int) (L.length : Int) (j : Int) =
      (if frst L i L.length && decide (1 < (lk L i L.length).length) then (if out.length < 5864062014805 then spec_cbLike.l0 k L (out ++ [lk L i L.length]) (L.length : Int) ((i + 1 : Nat) : Int) else none) else spec_cbLike.l0 k L out (L.length : Int) ((i + 1 : Nat) : Int))
  | 0, j, k, hj, hk => by
    simp only [spec_cbLike.l1, Nat.add_zero]
    rw [if_neg (by omega), up64 hi (by omega), show j = L.length by omega]
    cases h : frst L i L.length with
    | false => simp
    | true =>
      simp only [if_true, Bool.true_and]
      by_cases h2 : 1 < (lk L i L.length).length
      · rw [if_pos (by omega), decide_eq_true h2]; simp
      · rw [if_neg (by omega), decide_eq_false h2]; simp
  | d + 1, j, k, hj, hk => by
    have ih := cbLike_l1 L hn hx out i hi d (j + 1) k (by omega) hk
    have hjl : j < L.length := by omega
    obtain ⟨q, hq⟩ : ∃ q, k + d + 1 = q := ⟨_, rfl⟩
    rw [show k + (d + 1) + 1 = (k + d + 1) + 1 by omega]
    rw [hq] at ih ⊢
    simp only [spec_cbLike.l1]
    rw [if_pos (by omega), if_pos (by omega), if_pos (by omega), if_pos (by omega), if_pos (by omega), rdL_lt, rdL_lt, up64 hjl (by omega)]
    have hlen : (L.getD i []).length ≤ 1000 := by
      rw [List.getD_eq_getElem?_getD, List.getElem?_eq_getElem hi]
      exact hx _ (List.getElem_mem hi)
    rw [l1Same_f _ _ (by omega) (show (L.getD i []).length < q by omega)]
    simp only [Option.bind_some]
    rw [lk_succ, frst_succ] at ih
    have hll := lk_le L i j
    by_cases hs : L.getD i [] = L.getD j []
    · have hsm : sm L i j = true := by simpa [sm] using hs
      rw [if_pos (by simpa using hs)]
      by_cases hij : i < j
      · rw [if_pos ⟨hij, hsm⟩, decide_eq_false (show ¬ j < i by omega), Bool.false_and, Bool.not_false, Bool.and_true] at ih
        have g1 : (j : Int) > (i : Int) := by omega
        have g2 : decide ((j : Int) ≥ (i : Int)) = true := decide_eq_true (by omega)
        have g3 : (lk L i j).length < 17592186044416 := by omega
        cases hf : frst L i j with
        | true => rw [hf] at ih; rw [if_pos rfl, if_pos g1, if_pos g3, g2]; exact ih
        | false => rw [hf] at ih; rw [if_neg (by decide), if_pos g1, if_pos g3]; exact ih
      · rw [if_neg (fun h => hij h.1)] at ih
        have g1 : ¬ (j : Int) > (i : Int) := by omega
        by_cases hji : j < i
        · rw [decide_eq_true hji, hsm, Bool.and_true, Bool.not_true, Bool.and_false] at ih
          have g2 : decide ((j : Int) ≥ (i : Int)) = false := decide_eq_false (by omega)
          cases hf : frst L i j with
          | true => rw [if_pos rfl, if_neg g1, g2]; exact ih
          | false => rw [if_neg (by decide), if_neg g1]; exact ih
        · rw [decide_eq_false hji, Bool.false_and, Bool.not_false, Bool.and_true] at ih
          have g2 : decide ((j : Int) ≥ (i : Int)) = true := decide_eq_true (by omega)
          cases hf : frst L i j with
          | true => rw [hf] at ih; rw [if_pos rfl, if_neg g1, g2]; exact ih
          | false => rw [hf] at ih; rw [if_neg (by decide), if_neg g1]; exact ih
    · have hsm : sm L i j = false := by simpa [sm] using hs
      rw [if_neg (by simpa using hs)]
      rw [if_neg (fun h => by rw [hsm] at h; cases h.2), hsm, Bool.and_false, Bool.not_false, Bool.and_true] at ih
      exact ih
theorem likes'_succ (L : List (List Int)) (m : Nat) : likes' L (m + 1) = if frst L m L.length && decide (1 < (lk L m L.length).length) then likes' L m ++ [lk L m L.length] else likes' L m := by
  unfold likes'
  rw [List.range_succ, List.filter_append, List.map_append]
  cases h : (frst L m L.length && decide (1 < (lk L m L.length).length)) with
  | true => simp [List.filter_cons, h]
  | false => simp [List.filter_cons, h]
theorem likes'_le (L : List (List Int)) (m : Nat) : (likes' L m).length ≤ m := by
  unfold likes'
  rw [List.length_map]
  have := List.length_filter_le (fun i => frst L i L.length && decide (1 < (lk L i L.length).length)) (List.range m)
  simp at this
  omega
theorem cbLike_l0 (L : List (List Int)) (hn : L.length ≤ 1000) (hx : ∀ x ∈ L, x.length ≤ 1000) (d : Nat) : ∀ (i : Nat), i + d = L.length → ∀ k, d * (L.length + 2) + 1000 < k → spec_cbLike.l0 k L (likes' L i) (L.length : Int) (i : Int) = some (likes L) := by
  induction d with
  | zero =>
    intro i hi k hk
    obtain ⟨k, rfl⟩ : ∃ q, k = q + 1 := ⟨k - 1, by omega⟩
    simp only [spec_cbLike.l0]
    rw [if_neg (by omega), show i = L.length by omega]
    rfl
  | succ d ih0 =>
    intro i hi k hk
    rw [Nat.succ_mul] at hk
    obtain ⟨k2, hk2⟩ : ∃ q, k = (q + L.length + 1) + 1 := ⟨k - L.length - 2, by omega⟩
    have e0 : i + 1 + d = L.length := by omega
    have e1 : d * (L.length + 2) + 1000 < k2 := by omega
    have ih := ih0 (i + 1) e0 k2 e1
    have hil : i < L.length := by omega
    have h1 := cbLike_l1 L hn hx (likes' L i) i hil L.length 0 k2 (by omega) (by omega)
    have hle := likes'_le L i
    rw [if_pos (show (likes' L i).length < 5864062014805 by omega)] at h1
    rw [likes'_succ] at ih
    subst hk2
    obtain ⟨q, hq⟩ : ∃ q, k2 + L.length + 1 = q := ⟨_, rfl⟩
    rw [hq] at h1 ⊢
    simp only [spec_cbLike.l0]
    rw [if_pos (by omega)]
    have ea : lk L i 0 = [(i : Int)] := rfl
    have eb : frst L i 0 = true := rfl
    rw [ea, eb] at h1
    rw [show ((0 : Nat) : Int) = 0 from rfl] at h1
    rw [h1]
    split at ih <;> rename_i hc
    · rw [if_pos hc]; exact ih
    · rw [if_neg hc]; exact ih
theorem cbLike_f (a b : List Int) (hn : a.length ≤ 1000) (hl : a.length = b.length) (ha : rg 0 a = true) (hb : rg 0 b = true) {k : Nat} (hk : 2000000 < k) : spec_cbLike.f k a b = some (likes (labs a b)) := by
  unfold spec_cbLike.f
  have hll := labs_len a b
  have hb2 : (labs a b).length * ((labs a b).length + 2) ≤ 1000 * 1002 := Nat.mul_le_mul (by omega) (by omega)
  rw [cbLabels_f a b (by omega) hl ha hb (by omega)]
  exact cbLike_l0 (labs a b) (by omega) (fun x hx => by
    unfold labs at hx
    obtain ⟨i, _, rfl⟩ := List.mem_map.1 hx
    simp) (labs a b).length 0 (by omega) k (by omega)
theorem labs_get (a b : List Int) {i : Nat} (h : i < a.length) : (labs a b).getD i [] = [rd (sizes a) (i : Int), rd (sizes b) (i : Int)] := by
  simp [labs, List.getD_eq_getElem?_getD, h]
theorem likes_some (L : List (List Int)) (j : Nat) (hj : j < L.length) : ∀ i, i < j → sm L i j = true → likes L ≠ [] := by
  intro i
  induction i using Nat.strongRecOn with
  | _ i ih =>
    intro hij hs
    by_cases hf : frst L i L.length = true
    · intro hl
      unfold likes likes' at hl
      rw [List.map_eq_nil_iff, List.filter_eq_nil_iff] at hl
      have h1 := hl i (List.mem_range.2 (by omega))
      apply h1
      rw [hf, Bool.true_and, decide_eq_true_eq]
      unfold lk
      rw [List.length_cons, List.length_map]
      have : j ∈ (List.range L.length).filter (fun j => decide (i < j) && sm L i j) := by
        rw [List.mem_filter]
        exact ⟨List.mem_range.2 hj, by simp [hij, hs]⟩
      have := List.length_pos_of_mem this
      omega
    · rw [Bool.not_eq_true] at hf
      unfold frst at hf
      rw [List.all_eq_false] at hf
      obtain ⟨i', h1, h2⟩ := hf
      simp only [Bool.not_eq_true, Bool.not_eq_false', Bool.and_eq_true, decide_eq_true_eq] at h2
      refine ih i' h2.1 (by omega) ?_
      unfold sm at h2 hs ⊢
      simp only [decide_eq_true_eq] at h2 hs ⊢
      rw [← h2.2, hs]
theorem likes_none (L : List (List Int)) (h : ∀ i j, i < j → j < L.length → sm L i j = false) : likes L = [] := by
  unfold likes likes'
  rw [List.map_eq_nil_iff, List.filter_eq_nil_iff]
  intro i hi
  rw [List.mem_range] at hi
  have e : (List.range L.length).filter (fun j => decide (i < j) && sm L i j) = [] := by
    rw [List.filter_eq_nil_iff]
    intro j hj
    rw [List.mem_range] at hj
    by_cases hij : i < j
    · simp [h i j hij hj]
    · simp [hij]
  have : lk L i L.length = [(i : Int)] := by unfold lk; rw [e]; rfl
  rw [this]
  simp
theorem likes_keys (a b : List Int) (hl : a.length = b.length) (hn : b.length ≤ 12) : (likes (labs a b) = []) ↔ (impl_tells.keys (sizes a) (sizes b)).Nodup := by
  have hsa := sizes_len a
  have hsb := sizes_len b
  have hL := labs_len a b
  have hkl : (impl_tells.keys (sizes a) (sizes b)).length = a.length := by unfold impl_tells.keys; rw [List.length_zipWith]; omega
  have hget : ∀ i, (h : i < (impl_tells.keys (sizes a) (sizes b)).length) → (impl_tells.keys (sizes a) (sizes b))[i] = rd (sizes a) (i : Int) * 13 + rd (sizes b) (i : Int) := by
    intro i h
    have h1 : i < (sizes a).length := by omega
    have h2 : i < (sizes b).length := by omega
    rw [rd_lt h1, rd_lt h2]
    simp [impl_tells.keys]
  have hb : ∀ i, i < a.length → 0 ≤ rd (sizes b) (i : Int) ∧ rd (sizes b) (i : Int) ≤ 12 := by
    intro i h
    have h2 : i < (sizes b).length := by omega
    rw [rd_lt h2]
    have := sizes_pos b _ (List.getElem_mem h2)
    omega
  have key : ∀ i j, i < a.length → j < a.length → (sm (labs a b) i j = true ↔ rd (sizes a) (i : Int) * 13 + rd (sizes b) (i : Int) = rd (sizes a) (j : Int) * 13 + rd (sizes b) (j : Int)) := by
    intro i j hi hj
    unfold sm
    rw [labs_get a b hi, labs_get a b hj, decide_eq_true_eq]
    have h1 := hb i hi
    have h2 := hb j hj
    constructor
    · intro h
      injection h with h3 h4
      injection h4 with h4 _
      rw [h3, h4]
    · intro h
      have h3 : rd (sizes a) (i : Int) = rd (sizes a) (j : Int) := by omega
      have h4 : rd (sizes b) (i : Int) = rd (sizes b) (j : Int) := by omega
      rw [h3, h4]
  constructor
  · intro h
    rw [List.Nodup, List.pairwise_iff_getElem]
    intro i j hi hj hij he
    rw [hget i hi, hget j hj] at he
    exact likes_some (labs a b) j (by omega) i hij ((key i j (by omega) (by omega)).2 he) h
  · intro h
    rw [List.Nodup, List.pairwise_iff_getElem] at h
    refine likes_none _ (fun i j hij hj => ?_)
    rw [← Bool.not_eq_true, key i j (by omega) (by omega)]
    have := h i j (by omega) (by omega) hij
    rw [hget i (by omega), hget j (by omega)] at this
    exact this
theorem tells_f (a b : List Int) (h0 : 1 ≤ a.length) (hn : a.length ≤ 12) (hl : a.length = b.length) (ha : rg 0 a = true) (hb : rg 0 b = true) {k : Nat} (hk : 2000000 < k) : impl_tells.f k a b = some (decide (likes (labs a b) = [])) := by
  unfold impl_tells.f
  rw [sizeOfEach_f a (by omega) h0 ha hk, sizeOfEach_f b (by omega) (by omega) hb hk]
  simp only [Option.bind_some]
  rw [if_pos ⟨by rw [sizes_len, sizes_len]; omega, fun x hx => by have := sizes_pos a x hx; omega, fun x hx => by have := sizes_pos b x hx; omega⟩]
  congr 1
  rw [decide_eq_decide]
  exact (likes_keys a b hl (by omega)).symm
/-- All groupings that begin with a list, d wires more. -/
def allg : Nat → List Int → Nat → List (List Int)
  | 0, gs, _ => [gs]
  | d + 1, gs, many => (List.range (many + 1)).flatMap fun (k : Nat) => allg d (gs ++ [(k : Int)]) (max many (k + 1))
/-- One after the other, till one says false. -/
def runL {σ : Type} (step : σ → List Int → Option (σ × Bool)) : List (List Int) → σ → Option (σ × Bool)
  | [], s => some (s, true)
  | g :: gs, s => (step s g).bind fun r => if r.2 = true then runL step gs r.1 else some r
theorem runL_append {σ : Type} (step : σ → List Int → Option (σ × Bool)) (b : List (List Int)) : ∀ (a : List (List Int)) (s : σ), runL step (a ++ b) s = (runL step a s).bind fun r => if r.2 = true then runL step b r.1 else some r
  | [], s => by simp [runL]
  | g :: a, s => by
    simp only [List.cons_append, runL]
    cases h : step s g with
    | none => rfl
    | some r =>
      obtain ⟨s1, b1⟩ := r
      simp only [Option.bind_some]
      cases b1 with
      | true => simp only [if_true]; exact runL_append step b a s1
      | false => simp
theorem walk_runL {σ : Type} (step : σ → List Int → Option (σ × Bool)) : ∀ (d : Nat) (gs : List Int) (many : Nat) (s : σ), impl_groupings.walk step d gs many s = runL step (allg d gs many) s
  | 0, gs, many, s => by
    simp only [impl_groupings.walk, allg, runL]
    cases h : step s gs with
    | none => rfl
    | some r =>
      obtain ⟨s1, b1⟩ := r
      cases b1 <;> simp
  | d + 1, gs, many, s => by
    simp only [impl_groupings.walk, allg]
    generalize List.range (many + 1) = ks
    induction ks generalizing s with
    | nil => rfl
    | cons x ks ih =>
      rw [List.flatMap_cons, runL_append]
      simp only [impl_groupings.runK]
      rw [walk_runL step d]
      congr 1
      funext r
      rw [ih]
theorem flatMap_le {α β : Type} (f : α → List β) (C : Nat) : ∀ l : List α, (∀ x ∈ l, (f x).length ≤ C) → (l.flatMap f).length ≤ l.length * C
  | [], _ => by simp
  | x :: l, h => by
    have := flatMap_le f C l (fun y hy => h y (List.mem_cons_of_mem _ hy))
    have h1 := h x List.mem_cons_self
    rw [List.flatMap_cons, List.length_append, List.length_cons, Nat.succ_mul]
    omega
theorem nx_snoc (gs : List Int) {x : Nat} (hx : x ≤ nx 0 gs) : nx 0 (gs ++ [(x : Int)]) = max (nx 0 gs) (x + 1) := by
  rw [nx_append]
  simp only [nx]
  split <;> rename_i h <;> omega
theorem rg_snoc {gs : List Int} (h : rg 0 gs = true) {x : Nat} (hx : x ≤ nx 0 gs) : rg 0 (gs ++ [(x : Int)]) = true := by
  rw [rg_append, h, Bool.true_and]
  simp [rg]
  omega
theorem allg_mem : ∀ (d : Nat) (gs : List Int), rg 0 gs = true → ∀ g ∈ allg d gs (nx 0 gs), rg 0 g = true ∧ g.length = gs.length + d
  | 0, gs, h, g, hg => by
    simp only [allg, List.mem_singleton] at hg
    subst hg
    exact ⟨h, rfl⟩
  | d + 1, gs, h, g, hg => by
    simp only [allg, List.mem_flatMap, List.mem_range] at hg
    obtain ⟨x, hx, hg⟩ := hg
    rw [← nx_snoc gs (by omega)] at hg
    obtain ⟨h1, h2⟩ := allg_mem d _ (rg_snoc h (by omega)) g hg
    refine ⟨h1, ?_⟩
    rw [h2, List.length_append]
    simp only [List.length_cons, List.length_nil]
    omega
theorem allg_le : ∀ (d : Nat) (gs : List Int) (many : Nat), many + d ≤ 7 → (allg d gs many).length ≤ 8 ^ d
  | 0, gs, many, _ => by simp [allg]
  | d + 1, gs, many, h => by
    simp only [allg]
    have := flatMap_le (fun k : Nat => allg d (gs ++ [(k : Int)]) (max many (k + 1))) (8 ^ d) (List.range (many + 1)) (fun x hx => by
      rw [List.mem_range] at hx
      exact allg_le d _ _ (by omega))
    rw [List.length_range] at this
    refine Nat.le_trans this ?_
    rw [Nat.pow_succ, Nat.mul_comm]
    exact Nat.mul_le_mul_left _ (by omega)
theorem l1Own_f (l : List Int) (h : l.length < 17592186044416) : spec_l1Own.f l = some l := by
  unfold spec_l1Own.f
  simp only [Option.bind_some, List.length_nil, Nat.zero_add, List.nil_append]
  rw [if_pos h]
theorem cbAll_l0 (gs : List Int) (W : Int) (hn : gs.length ≤ 7) (hr : rg 0 gs = true) : ∀ (e i k : Nat), i + e = gs.length → spec_cbAll.l0 (k + e + 1) gs W (nx 0 (gs.take i) : Int) gs (gs.length : Int) (i : Int) = spec_cbAll.l1 k gs W (nx 0 gs : Int) [] 0
  | 0, i, k, hi => by
    simp only [spec_cbAll.l0, Nat.add_zero]
    rw [if_neg (by omega), List.take_of_length_le (by omega)]
  | e + 1, i, k, hi => by
    have ha : i < gs.length := by omega
    obtain ⟨t1, t2, t3⟩ := rg_take hr i
    rw [List.drop_eq_getElem_cons ha] at t2
    simp only [rg, Bool.and_eq_true, decide_eq_true_eq] at t2
    obtain ⟨⟨g0, g1⟩, _⟩ := t2
    have hle : nx 0 (gs.take i) ≤ i := by have := nx_le (gs.take i) 0; simp at this; omega
    rw [show k + (e + 1) + 1 = (k + e + 1) + 1 by omega]
    have ih := cbAll_l0 gs W hn hr e (i + 1) k (by omega)
    rw [nx_take_succ gs ha] at ih
    generalize k + e + 1 = q at ih ⊢
    simp only [spec_cbAll.l0]
    rw [if_pos (by omega), if_pos (by omega), if_pos (by omega), rd_lt ha, up64 ha (by omega), w64 (by omega) (by omega)]
    have em : spec_l1Most.f (nx 0 (gs.take i) : Int) (gs[i] + 1) = some (((if gs[i] = (nx 0 (gs.take i) : Int) then nx 0 (gs.take i) + 1 else nx 0 (gs.take i)) : Nat) : Int) := by
      unfold spec_l1Most.f
      split <;> split <;> first | rfl | (congr 1; omega) | omega
    rw [em]
    exact ih
theorem flat_snoc {β : Type} (f : Nat → List β) (x : Nat) : (List.range (x + 1)).flatMap f = (List.range x).flatMap f ++ f x := by
  rw [List.range_succ, List.flatMap_append]
  simp
theorem cbAll_l1 (gs : List Int) (W : Int) (many d K : Nat) (hn : gs.length ≤ 7) (hm : many ≤ 7) (f : Nat → List (List Int)) (hfl : ∀ x, x ≤ many → (f x).length ≤ 2097152) (hf : ∀ q x, K ≤ q → x ≤ many → spec_cbAll.f q (gs ++ [(x : Int)]) W = some (f x)) :
    ∀ (e x k : Nat), x + e = many + 1 → K ≤ k → spec_cbAll.l1 (k + e + 1) gs W (many : Int) ((List.range x).flatMap f) (x : Int) = some ((List.range (many + 1)).flatMap f)
  | 0, x, k, hx, hk => by
    simp only [spec_cbAll.l1, Nat.add_zero]
    rw [if_neg (by omega), show x = many + 1 by omega]
  | e + 1, x, k, hx, hk => by
    rw [show k + (e + 1) + 1 = (k + e + 1) + 1 by omega]
    have ih := cbAll_l1 gs W many d K hn hm f hfl hf e (x + 1) k (by omega) hk
    have hlen := flatMap_le f 2097152 (List.range (x + 1)) (fun y hy => by rw [List.mem_range] at hy; exact hfl y (by omega))
    rw [flat_snoc] at ih hlen
    rw [List.length_append, List.length_range] at hlen
    obtain ⟨q, hq2, hq⟩ : ∃ q, k + e + 1 = q ∧ K ≤ q := ⟨_, rfl, by omega⟩
    rw [hq2] at ih ⊢
    simp only [spec_cbAll.l1]
    rw [if_pos (by omega), l1Own_f gs (by omega)]
    simp only [Option.bind_some]
    rw [if_pos (by omega), hf q x hq (by omega)]
    simp only [Option.bind_some]
    rw [if_pos (by omega), w64 (by omega) (by omega), show (x : Int) + 1 = ((x + 1 : Nat) : Int) by omega]
    exact ih
theorem cbAll_f (wires : Nat) (hw : wires ≤ 7) : ∀ (d : Nat) (gs : List Int) (k : Nat), gs.length + d = wires → rg 0 gs = true → d * 40 + 40 ≤ k → spec_cbAll.f k gs (wires : Int) = some (allg d gs (nx 0 gs))
  | 0, gs, k, hl, hr, hk => by
    obtain ⟨k, rfl⟩ : ∃ q, k = q + 1 := ⟨k - 1, by omega⟩
    simp only [spec_cbAll.f]
    rw [if_pos (by omega), l1Own_f gs (by omega)]
    rfl
  | d + 1, gs, k, hl, hr, hk => by
    have hle : nx 0 gs ≤ gs.length := by have := nx_le gs 0; omega
    obtain ⟨q, rfl⟩ : ∃ q, k = (((q + (nx 0 gs + 1) + 1) + gs.length + 1)) + 1 := ⟨k - (nx 0 gs + 1) - 1 - gs.length - 1 - 1, by omega⟩
    have h0 := cbAll_l0 gs (wires : Int) (by omega) hr gs.length 0 (q + (nx 0 gs + 1) + 1) (by omega)
    have h1 := cbAll_l1 gs (wires : Int) (nx 0 gs) d (d * 40 + 40) (by omega) (by omega) (fun x => allg d (gs ++ [(x : Int)]) (max (nx 0 gs) (x + 1))) (fun x hx => Nat.le_trans (allg_le d _ _ (by omega)) (Nat.le_trans (Nat.pow_le_pow_right (by omega) (show d ≤ 7 by omega)) (by decide))) (fun q x hq hx => by
      have := cbAll_f wires hw d (gs ++ [(x : Int)]) q (by rw [List.length_append]; simp only [List.length_cons, List.length_nil]; omega) (rg_snoc hr hx) hq
      rw [nx_snoc gs hx] at this
      exact this) (nx 0 gs + 1) 0 q (by omega) (by omega)
    generalize q + (nx 0 gs + 1) + 1 = p at h0 h1 ⊢
    generalize p + gs.length + 1 = p2 at h0 ⊢
    simp only [spec_cbAll.f]
    rw [if_neg (by omega)]
    have e0 : nx 0 (gs.take 0) = 0 := rfl
    rw [e0] at h0
    have e1 : (List.range 0).flatMap (fun x : Nat => allg d (gs ++ [(x : Int)]) (max (nx 0 gs) (x + 1))) = [] := rfl
    rw [e1, show ((0 : Nat) : Int) = 0 from rfl] at h1
    rw [show ((0 : Nat) : Int) = 0 from rfl] at h0
    exact h0.trans h1
theorem allg0_mem {wires : Nat} {g : List Int} (h : g ∈ allg wires [] 0) : rg 0 g = true ∧ g.length = wires := by
  have := allg_mem wires [] rfl g h
  simpa using this
theorem listed_f (a0 : Int) : impl_areListed.f a0 = some (decide (1 ≤ a0 ∧ a0 ≤ 7)) := by
  unfold impl_areListed.f impl_within.f
  by_cases h : 1 ≤ a0 <;> simp [h]
theorem cbFew_f (a0 : Int) : spec_cbFew.f a0 = some (decide (1 ≤ a0 ∧ a0 ≤ 7)) := by
  unfold spec_cbFew.f spec_l1In.f
  by_cases h : 1 ≤ a0 <;> simp [h]
/-- All groupings that tell all wires with one. -/
def parts (a : List Int) : List (List Int) := (allg a.length [] 0).filter (fun b => decide (likes (labs a b) = []))
theorem allg0_le {wires : Nat} (h : wires ≤ 7) : (allg wires [] 0).length ≤ 2097152 := Nat.le_trans (allg_le wires [] 0 (by omega)) (Nat.le_trans (Nat.pow_le_pow_right (by omega) h) (by decide))
theorem cbPartners_l0 (a : List Int) (ha : rg 0 a = true) (hn : a.length ≤ 12) (rows : List (List Int)) (hl : rows.length ≤ 2097152) (hr : ∀ b ∈ rows, rg 0 b = true ∧ b.length = a.length) : ∀ (d i k : Nat), i + d = rows.length → 2000000 + d < k →
    spec_cbPartners.l0 k a ((rows.take i).filter (fun b => decide (likes (labs a b) = []))) rows (rows.length : Int) (i : Int) = some (rows.filter (fun b => decide (likes (labs a b) = [])))
  | 0, i, k, hi, hk => by
    obtain ⟨k, rfl⟩ : ∃ q, k = q + 1 := ⟨k - 1, by omega⟩
    simp only [spec_cbPartners.l0]
    rw [if_neg (by omega), List.take_of_length_le (by omega)]
  | d + 1, i, k, hi, hk => by
    obtain ⟨k, rfl⟩ : ∃ q, k = q + 1 := ⟨k - 1, by omega⟩
    have hil : i < rows.length := by omega
    have ih := cbPartners_l0 a ha hn rows hl hr d (i + 1) k (by omega) (by omega)
    obtain ⟨h1, h2⟩ := hr rows[i] (List.getElem_mem hil)
    have e : rows.getD i [] = rows[i] := by rw [List.getD_eq_getElem?_getD, List.getElem?_eq_getElem hil]; rfl
    rw [List.take_succ_eq_append_getElem hil, List.filter_append] at ih
    have hle := List.length_filter_le (fun b => decide (likes (labs a b) = [])) (rows.take i)
    rw [List.length_take] at hle
    simp only [spec_cbPartners.l0]
    rw [if_pos (by omega), if_pos (by omega), if_pos (by omega), rdL_lt, e, cbLike_f a rows[i] (by omega) h2.symm ha h1 (by omega)]
    simp only [Option.bind_some]
    rw [up64 hil (by omega)]
    by_cases hz : likes (labs a rows[i]) = []
    · rw [if_pos (by rw [hz]; rfl), if_pos (by omega)]
      rw [List.filter_cons_of_pos (by simpa using hz)] at ih
      exact ih
    · rw [if_neg (by intro h3; exact hz (List.length_eq_zero_iff.1 (by omega)))]
      rw [List.filter_cons_of_neg (by simpa using hz)] at ih
      simpa using ih
theorem cbPartners_f (a : List Int) (ha : rg 0 a = true) (hn : a.length ≤ 7) {k : Nat} (hk : 5000000 < k) : spec_cbPartners.f k a = some (parts a) := by
  unfold spec_cbPartners.f
  have h := cbAll_f a.length hn a.length [] k (by simp) rfl (by omega)
  rw [show nx 0 ([] : List Int) = 0 from rfl] at h
  rw [h]
  simp only [Option.bind_some]
  have hle := allg0_le hn
  exact cbPartners_l0 a ha (by omega) _ hle (fun b hb => allg0_mem hb) (allg a.length [] 0).length 0 k (by omega) (by omega)
/-- The list l, with what stands before place i changed for what stands as far from the end. -/
def flp (l : List Int) (i : Nat) : List Int := (List.range l.length).map fun p => if p < i ∨ l.length - i ≤ p then l.getD (l.length - 1 - p) 0 else l.getD p 0
theorem flp_len (l : List Int) (i : Nat) : (flp l i).length = l.length := by simp [flp]
theorem flp_get (l : List Int) (i p : Nat) (h : p < l.length) : (flp l i)[p]? = some (if p < i ∨ l.length - i ≤ p then l.getD (l.length - 1 - p) 0 else l.getD p 0) := by
  simp [flp, h]
theorem flp_rd (l : List Int) (i p : Nat) (h : p < l.length) : rd (flp l i) (p : Int) = if p < i ∨ l.length - i ≤ p then l.getD (l.length - 1 - p) 0 else l.getD p 0 := by
  unfold rd
  rw [Int.toNat_natCast, List.getD_eq_getElem?_getD, flp_get l i p h]
  rfl
theorem flp_zero (l : List Int) : flp l 0 = l := by
  apply List.ext_getElem?
  intro p
  by_cases h : p < l.length
  · rw [flp_get l 0 p h, if_neg (by omega), List.getElem?_eq_getElem h]
    simp [List.getD_eq_getElem?_getD, h]
  · rw [List.getElem?_eq_none (by rw [flp_len]; omega), List.getElem?_eq_none (by omega)]
theorem flp_full (l : List Int) (i : Nat) (hi : l.length ≤ 2 * i + 1) : flp l i = l.reverse := by
  apply List.ext_getElem?
  intro p
  by_cases h : p < l.length
  · rw [flp_get l i p h, List.getElem?_reverse h, List.getElem?_eq_getElem (by omega)]
    by_cases hc : p < i ∨ l.length - i ≤ p
    · rw [if_pos hc]
      simp [List.getD_eq_getElem?_getD, show l.length - 1 - p < l.length by omega]
    · rw [if_neg hc]
      have : l.length - 1 - p = p := by omega
      simp [List.getD_eq_getElem?_getD, this, h]
  · rw [List.getElem?_eq_none (by rw [flp_len]; omega), List.getElem?_eq_none (by simp; omega)]
theorem flp_step (l : List Int) (i : Nat) (h : 2 * i + 1 < l.length) : ((flp l i).set i (l.getD (l.length - 1 - i) 0)).set (l.length - 1 - i) (l.getD i 0) = flp l (i + 1) := by
  apply List.ext_getElem?
  intro p
  by_cases hp : p < l.length
  · rw [List.getElem?_set, List.getElem?_set, flp_get l i p hp, flp_get l (i + 1) p hp]
    by_cases e1 : l.length - 1 - i = p
    · rw [if_pos e1, if_pos (by rw [List.length_set, flp_len]; omega), if_pos (by omega)]
      congr 2
      omega
    · rw [if_neg e1]
      by_cases e2 : i = p
      · rw [if_pos e2, if_pos (by rw [flp_len]; omega), if_pos (by omega)]
        subst e2
        rfl
      · rw [if_neg e2]
        by_cases hc : p < i ∨ l.length - i ≤ p
        · rw [if_pos hc, if_pos (by omega)]
        · rw [if_neg hc, if_neg (by omega)]
  · rw [List.getElem?_eq_none (by simp only [List.length_set, flp_len]; omega), List.getElem?_eq_none (by rw [flp_len]; omega)]
theorem reverse_l0 (l : List Int) (hn : l.length ≤ 4000000) : ∀ (d i k : Nat), l.length ≤ 2 * i + d → 2 * i ≤ l.length + 1 → d < k → slices_Reverse_int_int.l0 k (flp l i) (i : Int) ((l.length : Int) - 1 - (i : Int)) = some l.reverse
  | 0, i, k, h1, h2, hk => by
    obtain ⟨k, rfl⟩ : ∃ q, k = q + 1 := ⟨k - 1, by omega⟩
    simp only [slices_Reverse_int_int.l0]
    rw [if_neg (by omega), flp_full l i (by omega)]
  | d + 1, i, k, h1, h2, hk => by
    obtain ⟨k, rfl⟩ : ∃ q, k = q + 1 := ⟨k - 1, by omega⟩
    simp only [slices_Reverse_int_int.l0]
    by_cases hc : (i : Int) < (l.length : Int) - 1 - (i : Int)
    · have hi : 2 * i + 1 < l.length := by omega
      have e1 : (l.length : Int) - 1 - (i : Int) = ((l.length - 1 - i : Nat) : Int) := by omega
      have ih := reverse_l0 l hn d (i + 1) k (by omega) (by omega) (by omega)
      have e2 : (l.length : Int) - 1 - ((i + 1 : Nat) : Int) = wrap64 (((l.length - 1 - i : Nat) : Int) - 1) := by rw [w64 (by omega) (by omega)]; omega
      rw [if_pos hc, if_pos (by omega), flp_len, if_pos (by omega), if_pos (by omega), if_pos (by omega), e1, flp_rd l i i (by omega), flp_rd l i (l.length - 1 - i) (by omega), if_neg (by omega), if_neg (by omega), Int.toNat_natCast, Int.toNat_natCast, flp_step l i hi, up64 (n := l.length) (by omega) (by omega), ← e2]
      exact ih
    · rw [if_neg hc, flp_full l i (by omega)]
theorem reverse_f (l : List Int) (hn : l.length ≤ 4000000) {k : Nat} (hk : l.length < k) : slices_Reverse_int_int.f k l = some l.reverse := by
  unfold slices_Reverse_int_int.f
  have h := reverse_l0 l hn l.length 0 k (by omega) (by omega) hk
  rw [flp_zero] at h
  rw [w64 (by omega) (by omega)]
  simpa using h
theorem sorted_eq {a b : List Int} (ha : a.Pairwise (fun x y => y ≤ x)) (hb : b.Pairwise (fun x y => y ≤ x)) (hp : a.Perm b) : a = b :=
  List.Perm.eq_of_pairwise (fun x y _ _ h1 h2 => Int.le_antisymm h2 h1) ha hb hp
theorem sort_rev (l : List Int) : (l.mergeSort fun x y => decide (x ≤ y)).reverse.Pairwise (fun x y => y ≤ x) ∧ (l.mergeSort fun x y => decide (x ≤ y)).reverse.Perm l := by
  refine ⟨?_, (List.reverse_perm _).trans (List.mergeSort_perm l _)⟩
  rw [List.pairwise_reverse]
  have := List.pairwise_mergeSort (le := fun x y : Int => decide (x ≤ y)) (fun a b c h1 h2 => by simp only [decide_eq_true_eq] at *; omega) (fun a b => by simp only [Bool.or_eq_true, decide_eq_true_eq]; omega) l
  refine this.imp (fun h => ?_)
  simpa using h
/-- The sizes of the groups. -/
def lens (G : List (List Int)) : List Int := G.map fun x => (x.length : Int)
theorem ins_sorted (o : List Int) (v : Int) (m : Nat) (hm : m ≤ o.length) (ho : o.Pairwise (fun x y => y ≤ x)) (h1 : ∀ x ∈ o.drop m, x < v) (h2 : ∀ x, m ≠ 0 → o[m - 1]? = some x → v ≤ x) : ((o.take m ++ [v]) ++ o.drop m).Pairwise (fun x y => y ≤ x) := by
  rw [List.append_assoc]
  have hd := ho
  rw [← List.take_append_drop m o, List.pairwise_append] at hd
  rw [List.pairwise_append]
  have key : ∀ x ∈ o.take m, v ≤ x := by
    intro x hx
    obtain ⟨j, hj, rfl⟩ := List.mem_iff_getElem.1 hx
    have hj' : j < m := by simp at hj; omega
    have hjo : j < o.length := by omega
    have hmo : m - 1 < o.length := by omega
    have hv := h2 _ (by omega) (List.getElem?_eq_getElem hmo)
    rw [List.getElem_take]
    by_cases e : j = m - 1
    · subst e; exact hv
    · have := List.pairwise_iff_getElem.1 ho j (m - 1) hjo hmo (by omega)
      omega
  refine ⟨hd.1, ?_, ?_⟩
  · rw [List.singleton_append, List.pairwise_cons]
    exact ⟨fun x hx => Int.le_of_lt (h1 x hx), hd.2.1⟩
  · intro x hx y hy
    rw [List.singleton_append] at hy
    rcases List.mem_cons.1 hy with rfl | hy
    · exact key x hx
    · exact hd.2.2 x hx y hy
theorem ins_perm (o : List Int) (v : Int) (m : Nat) : ((o.take m ++ [v]) ++ o.drop m).Perm (o ++ [v]) := by
  rw [List.append_assoc, List.singleton_append]
  refine List.perm_middle.trans ?_
  rw [List.take_append_drop]
  exact (List.perm_append_singleton v o).symm
theorem cbSizes_l1 (G : List (List Int)) (o w : List Int) (ho : o.Pairwise (fun x y => y ≤ x)) (hl : o.length ≤ 1000) (n t : Int) (C : Nat) (R : List Int → Prop)
    (cont : ∀ q o', C < q → o'.Pairwise (fun x y => y ≤ x) → o'.Perm (o ++ [(w.length : Int)]) → ∃ r, spec_cbSizes.l0 q o' G n (wrap64 (t + 1)) = some r ∧ R r) :
    ∀ (m k : Nat), m ≤ o.length → (∀ x ∈ o.drop m, x < (w.length : Int)) → m + C + 1 < k → ∃ r, spec_cbSizes.l1 k o w (m : Int) G n t = some r ∧ R r := by
  intro m
  induction m with
  | zero =>
    intro k hm hd hk
    obtain ⟨k, rfl⟩ : ∃ q, k = q + 1 := ⟨k - 1, by omega⟩
    obtain ⟨r, e, hr⟩ := cont k _ (by omega) (ins_sorted o (w.length : Int) 0 hm ho hd (fun _ h => absurd rfl h)) (ins_perm o _ 0)
    refine ⟨r, ?_, hr⟩
    simp only [spec_cbSizes.l1, spec_l1Own.f]
    rw [if_neg (by omega), if_pos (by omega), if_pos (by omega)]
    simp only [Option.bind_some, List.nil_append]
    rw [if_pos (by simp), Option.bind_some, if_pos (by simp), if_pos (by simp; omega)]
    exact e
  | succ m ih =>
    intro k hm hd hk
    obtain ⟨k, rfl⟩ : ∃ q, k = q + 1 := ⟨k - 1, by omega⟩
    have hmo : m < o.length := by omega
    have e1 : wrap64 (((m + 1 : Nat) : Int) - 1) = (m : Int) := by rw [w64 (by omega) (by omega)]; omega
    simp only [spec_cbSizes.l1, spec_l1Own.f]
    rw [if_pos (by omega), e1, if_pos (by omega), if_pos (by omega), rd_lt hmo]
    by_cases hc : o[m] < (w.length : Int)
    · rw [if_pos hc]
      refine ih k (by omega) (fun x hx => ?_) (by omega)
      rw [List.drop_eq_getElem_cons hmo] at hx
      rcases List.mem_cons.1 hx with rfl | hx
      · exact hc
      · exact hd x hx
    · obtain ⟨r, e, hr⟩ := cont k _ (by omega) (ins_sorted o (w.length : Int) (m + 1) hm ho hd (fun x _ hx => by
        rw [Nat.add_sub_cancel, List.getElem?_eq_getElem hmo] at hx
        injection hx with hx
        omega)) (ins_perm o _ (m + 1))
      refine ⟨r, ?_, hr⟩
      rw [if_neg hc, if_pos (by omega), if_pos (by omega), Int.toNat_natCast]
      simp only [Option.bind_some, List.nil_append]
      rw [if_pos (by simp; omega), Option.bind_some, if_pos (by simp; omega), if_pos (by simp; omega)]
      exact e
theorem cbSizes_l0 (G : List (List Int)) (hG : G.length ≤ 12) : ∀ (d i k : Nat) (o : List Int), i + d = G.length → o.Pairwise (fun x y => y ≤ x) → o.Perm (lens (G.take i)) → d * 20 + 20 < k → ∃ r, spec_cbSizes.l0 k o G (G.length : Int) (i : Int) = some r ∧ (r.Pairwise (fun x y => y ≤ x) ∧ r.Perm (lens G))
  | 0, i, k, o, hi, ho, hp, hk => by
    obtain ⟨k, rfl⟩ : ∃ q, k = q + 1 := ⟨k - 1, by omega⟩
    simp only [spec_cbSizes.l0]
    rw [if_neg (by omega)]
    rw [List.take_of_length_le (by omega)] at hp
    exact ⟨o, rfl, ho, hp⟩
  | d + 1, i, k, o, hi, ho, hp, hk => by
    obtain ⟨k, rfl⟩ : ∃ q, k = q + 1 := ⟨k - 1, by omega⟩
    have ha : i < G.length := by omega
    have hol : o.length = i := by rw [hp.length_eq]; simp [lens]; omega
    have e : rd_L1 G (i : Int) = G[i] := by unfold rd_L1; simp [List.getD_eq_getElem?_getD, ha]
    simp only [spec_cbSizes.l0]
    rw [if_pos (by omega), if_pos (by omega), if_pos (by omega), e]
    refine cbSizes_l1 G o G[i] ho (by omega) (G.length : Int) (i : Int) (d * 20 + 20) _ (fun q o' hq h1 h2 => ?_) o.length k (Nat.le_refl _) (fun x hx => by rw [List.drop_length] at hx; cases hx) (by omega)
    rw [up64 ha (by omega)]
    refine cbSizes_l0 G hG d (i + 1) q o' (by omega) h1 (h2.trans ?_) (by omega)
    rw [List.take_succ_eq_append_getElem ha]
    unfold lens at hp ⊢
    rw [List.map_append]
    exact List.Perm.append_right _ hp
theorem sizesOf_l0 (G : List (List Int)) (hG : G.length ≤ 12) : ∀ (d i k : Nat), i + d = G.length → d + 20 < k → impl_sizesOf.l0 k (lens (G.take i)) G (G.length : Int) (i : Int) = some ((lens G).mergeSort fun x y => decide (x ≤ y)).reverse
  | 0, i, k, hi, hk => by
    obtain ⟨k, rfl⟩ : ∃ q, k = q + 1 := ⟨k - 1, by omega⟩
    simp only [impl_sizesOf.l0]
    have hl : (lens G).length = G.length := by simp [lens]
    rw [if_neg (by omega), List.take_of_length_le (by omega)]
    unfold slices_Sort_int_int.f impl_turned_int.f slices_Clone_int_int.f
    rw [if_pos (by omega)]
    simp only [Option.bind_some]
    rw [if_pos (by rw [List.length_mergeSort]; omega)]
    simp only [Option.bind_some]
    rw [reverse_f _ (by rw [List.length_mergeSort]; omega) (by rw [List.length_mergeSort]; omega)]
    rfl
  | d + 1, i, k, hi, hk => by
    obtain ⟨k, rfl⟩ : ∃ q, k = q + 1 := ⟨k - 1, by omega⟩
    have ha : i < G.length := by omega
    have ih := sizesOf_l0 G hG d (i + 1) k (by omega) (by omega)
    have e : rd_L1 G (i : Int) = G[i] := by unfold rd_L1; simp [List.getD_eq_getElem?_getD, ha]
    have hl : (lens (G.take i)).length ≤ 12 := by simp [lens]; omega
    simp only [impl_sizesOf.l0]
    rw [if_pos (by omega), if_pos (by omega), if_pos (by omega), if_pos (by omega), e, up64 ha (by omega)]
    rw [List.take_succ_eq_append_getElem ha] at ih
    unfold lens at ih ⊢
    rw [List.map_append] at ih
    exact ih
/-- The sizes, the greatest first. -/
def sz (l : List Int) : List Int := ((lens (groups l)).mergeSort fun x y => decide (x ≤ y)).reverse
theorem sz_len (l : List Int) (h3 : rg 0 l = true) (h2 : l.length ≤ 12) : (sz l).length ≤ 12 := by
  obtain ⟨t1, t2⟩ := groups_tot l h3
  unfold sz
  rw [List.length_reverse, List.length_mergeSort]
  simp [lens]
  omega
theorem cbSizes_f (l : List Int) (h3 : rg 0 l = true) (h2 : l.length ≤ 12) {k : Nat} (hk : 4000000 ≤ k) : spec_cbSizes.f k l = some (sz l) := by
  obtain ⟨t1, t2⟩ := groups_tot l h3
  unfold spec_cbSizes.f
  rw [cbGroups_f l (by omega) h3 (by omega)]
  simp only [Option.bind_some]
  obtain ⟨r, e, hs, hp⟩ := cbSizes_l0 (groups l) (by omega) (groups l).length 0 k [] (by omega) List.Pairwise.nil (by simp [lens]) (by omega)
  rw [show ((0 : Nat) : Int) = 0 from rfl] at e
  rw [e, sorted_eq hs (sort_rev (lens (groups l))).1 (hp.trans (sort_rev (lens (groups l))).2.symm)]
  rfl
theorem sizesOf_f (l : List Int) (h3 : rg 0 l = true) (h1 : 1 ≤ l.length) (h2 : l.length ≤ 12) {k : Nat} (hk : 4000000 ≤ k) : impl_sizesOf.f k l = some (sz l) := by
  obtain ⟨t1, t2⟩ := groups_tot l h3
  unfold impl_sizesOf.f
  rw [groupsOf_f l (by omega) h1 h3 (by omega)]
  simp only [Option.bind_some]
  have := sizesOf_l0 (groups l) (by omega) (groups l).length 0 k (by omega) (by omega)
  rw [show ((0 : Nat) : Int) = 0 from rfl] at this
  rw [List.take_zero] at this
  exact this
/-- From place i on, no size is greater than the one before. -/
def dsc (l : List Int) (i : Nat) : Prop := ∀ j, i ≤ j → 0 < j → j < l.length → rd l (j : Int) ≤ rd l ((j - 1 : Nat) : Int)
theorem dsc_step {l : List Int} {i : Nat} (hi : i < l.length) : dsc l i ↔ (0 < i → rd l (i : Int) ≤ rd l ((i - 1 : Nat) : Int)) ∧ dsc l (i + 1) := by
  constructor
  · exact fun h => ⟨fun h0 => h i (Nat.le_refl _) h0 hi, fun j h1 h2 h3 => h j (by omega) h2 h3⟩
  · rintro ⟨h1, h2⟩ j hj h0 hl
    by_cases e : j = i
    · subst e; exact h1 h0
    · exact h2 j (by omega) h0 hl
theorem dsc_end {l : List Int} {i : Nat} (hi : l.length ≤ i) : dsc l i := fun j h1 _ h3 => by omega
theorem within_f (x a b : Int) : impl_within.f x a b = some (decide (a ≤ x ∧ x ≤ b)) := by
  unfold impl_within.f
  by_cases h : a ≤ x
  · rw [if_pos h]; simp [h]
  · rw [if_neg h]; simp [h]
theorem in_f (x a b : Int) : spec_l1In.f x a b = some (decide (a ≤ x ∧ x ≤ b)) := by
  unfold spec_l1In.f
  by_cases h : x ≥ a
  · rw [if_pos h]; simp [h]
  · rw [if_neg h]; simp [h]
theorem areSizes_l0 (l : List Int) (hn : l.length ≤ 1048576) : ∀ (d i k : Nat) (s : Int), i + d = l.length → d < k → 0 ≤ s → s ≤ 12 * (i : Int) →
    ∃ q b, impl_areSizes.l0 k l s l (l.length : Int) (i : Int) = some (q, b) ∧ (b = true ↔ (∀ x ∈ l.drop i, 1 ≤ x ∧ x ≤ 12) ∧ dsc l i ∧ l.length ≤ 12 ∧ 1 ≤ s + (l.drop i).sum ∧ s + (l.drop i).sum ≤ 12)
  | 0, i, k, s, hi, hk, h0, h1 => by
    obtain ⟨k, rfl⟩ : ∃ q, k = q + 1 := ⟨k - 1, by omega⟩
    have hd : l.drop i = [] := List.drop_eq_nil_of_le (by omega)
    simp only [impl_areSizes.l0]
    rw [if_neg (by omega), hd]
    unfold impl_areWires.f
    rw [within_f]
    by_cases h : (l.length : Int) ≤ 12
    · rw [if_pos h]
      exact ⟨s, _, rfl, by simp [dsc_end (l := l) (i := i) (by omega)]; omega⟩
    · rw [if_neg h]
      exact ⟨s, false, rfl, by simp; omega⟩
  | d + 1, i, k, s, hi, hk, h0, h1 => by
    obtain ⟨k, rfl⟩ : ∃ q, k = q + 1 := ⟨k - 1, by omega⟩
    have ha : i < l.length := by omega
    have hdr : l.drop i = l[i] :: l.drop (i + 1) := List.drop_eq_getElem_cons ha
    simp only [impl_areSizes.l0]
    rw [if_pos (by omega), if_pos (by omega), if_pos (by omega), within_f, rd_lt ha, hdr, dsc_step ha, rd_lt ha]
    simp only [Option.bind_some]
    by_cases hx : 1 ≤ l[i] ∧ l[i] ≤ 12
    · rw [if_pos (by simpa using hx)]
      obtain ⟨q, b, h2, h3⟩ := areSizes_l0 l hn d (i + 1) k (s + l[i]) (by omega) (by omega) (by omega) (by omega)
      have he : wrap64 (s + l[i]) = s + l[i] := w64 (by omega) (by omega)
      by_cases hi0 : 0 < i
      · have hp : i - 1 < l.length := by omega
        rw [if_pos (by omega), w64 (x := (i : Int) - 1) (by omega) (by omega), if_pos (by omega), if_pos (by omega), show (i : Int) - 1 = ((i - 1 : Nat) : Int) by omega, rd_lt hp, he, up64 ha (by omega)]
        by_cases hg : l[i] > l[i - 1]
        · rw [if_pos hg]
          exact ⟨0, false, rfl, by simp only [Bool.false_eq_true, false_iff]; rintro ⟨_, ⟨h4, _⟩, _⟩; have := h4 hi0; omega⟩
        · rw [if_neg hg]
          refine ⟨q, b, h2, h3.trans ?_⟩
          simp only [List.mem_cons, forall_eq_or_imp, List.sum_cons]
          constructor
          · rintro ⟨a1, a2, a3, a4, a5⟩; exact ⟨⟨hx, a1⟩, ⟨fun _ => by omega, a2⟩, a3, by omega, by omega⟩
          · rintro ⟨⟨_, a1⟩, ⟨_, a2⟩, a3, a4, a5⟩; exact ⟨a1, a2, a3, by omega, by omega⟩
      · rw [if_neg (by omega), he, up64 ha (by omega)]
        refine ⟨q, b, h2, h3.trans ?_⟩
        simp only [List.mem_cons, forall_eq_or_imp, List.sum_cons]
        constructor
        · rintro ⟨a1, a2, a3, a4, a5⟩; exact ⟨⟨hx, a1⟩, ⟨fun h => by omega, a2⟩, a3, by omega, by omega⟩
        · rintro ⟨⟨_, a1⟩, ⟨_, a2⟩, a3, a4, a5⟩; exact ⟨a1, a2, a3, by omega, by omega⟩
    · rw [if_neg (by simpa using hx)]
      refine ⟨0, false, rfl, ?_⟩
      simp only [Bool.false_eq_true, false_iff, List.mem_cons, forall_eq_or_imp]
      rintro ⟨⟨h4, _⟩, _⟩
      exact hx h4
theorem l1All_l0 (l : List Int) (a b : Int) (hn : l.length ≤ 1048576) : ∀ (d i k : Nat), i + d = l.length → d < k → ∃ r, spec_l1All.l0 k a b l (l.length : Int) (i : Int) = some r ∧ (r = true ↔ ∀ x ∈ l.drop i, a ≤ x ∧ x ≤ b)
  | 0, i, k, hi, hk => by
    obtain ⟨k, rfl⟩ : ∃ q, k = q + 1 := ⟨k - 1, by omega⟩
    simp only [spec_l1All.l0]
    rw [if_neg (by omega), List.drop_eq_nil_of_le (by omega)]
    exact ⟨true, rfl, by simp⟩
  | d + 1, i, k, hi, hk => by
    obtain ⟨k, rfl⟩ : ∃ q, k = q + 1 := ⟨k - 1, by omega⟩
    have ha : i < l.length := by omega
    obtain ⟨r, h1, h2⟩ := l1All_l0 l a b hn d (i + 1) k (by omega) (by omega)
    simp only [spec_l1All.l0]
    rw [if_pos (by omega), if_pos (by omega), if_pos (by omega), in_f, rd_lt ha, List.drop_eq_getElem_cons ha, up64 ha (by omega)]
    simp only [Option.bind_some]
    by_cases hx : a ≤ l[i] ∧ l[i] ≤ b
    · rw [if_pos (by simpa using hx)]
      exact ⟨r, h1, by rw [h2]; simp only [List.mem_cons, forall_eq_or_imp]; exact ⟨fun h => ⟨hx, h⟩, fun h => h.2⟩⟩
    · rw [if_neg (by simpa using hx)]
      exact ⟨false, rfl, by simp only [Bool.false_eq_true, false_iff, List.mem_cons, forall_eq_or_imp]; exact fun h => hx h.1⟩
theorem cbKinds_l0 (l : List Int) (hn : l.length ≤ 12) (hin : ∀ x ∈ l, 1 ≤ x ∧ x ≤ 12) : ∀ (d i k : Nat) (s : Int), i + d = l.length → d < k → 0 ≤ s → s ≤ 12 * (i : Int) →
    ∃ b, spec_cbKinds.l0 k l s l (l.length : Int) (i : Int) = some b ∧ (b = true ↔ dsc l i ∧ s + (l.drop i).sum ≤ 12)
  | 0, i, k, s, hi, hk, h0, h1 => by
    obtain ⟨k, rfl⟩ : ∃ q, k = q + 1 := ⟨k - 1, by omega⟩
    simp only [spec_cbKinds.l0]
    rw [if_neg (by omega), List.drop_eq_nil_of_le (by omega)]
    exact ⟨_, rfl, by simp [dsc_end (l := l) (i := i) (by omega)]⟩
  | d + 1, i, k, s, hi, hk, h0, h1 => by
    obtain ⟨k, rfl⟩ : ∃ q, k = q + 1 := ⟨k - 1, by omega⟩
    have ha : i < l.length := by omega
    have hx := hin l[i] (List.getElem_mem ha)
    obtain ⟨b, h2, h3⟩ := cbKinds_l0 l hn hin d (i + 1) k (s + l[i]) (by omega) (by omega) (by omega) (by omega)
    have he : wrap64 (s + l[i]) = s + l[i] := w64 (by omega) (by omega)
    simp only [spec_cbKinds.l0]
    rw [if_pos (by omega), if_pos (by omega), if_pos (by omega), rd_lt ha, List.drop_eq_getElem_cons ha, dsc_step ha, rd_lt ha, he, up64 ha (by omega)]
    by_cases hi0 : 0 < i
    · have hp : i - 1 < l.length := by omega
      rw [if_pos (by omega), w64 (x := (i : Int) - 1) (by omega) (by omega), if_pos (by omega), if_pos (by omega), show (i : Int) - 1 = ((i - 1 : Nat) : Int) by omega, rd_lt hp]
      by_cases hg : l[i - 1] < l[i]
      · rw [if_pos hg]
        exact ⟨false, rfl, by simp only [Bool.false_eq_true, false_iff]; rintro ⟨⟨h4, _⟩, _⟩; have := h4 hi0; omega⟩
      · rw [if_neg hg]
        refine ⟨b, h2, h3.trans ?_⟩
        rw [List.sum_cons]
        constructor
        · rintro ⟨a1, a2⟩; exact ⟨⟨fun _ => by omega, a1⟩, by omega⟩
        · rintro ⟨⟨_, a1⟩, a2⟩; exact ⟨a1, by omega⟩
    · rw [if_neg (by omega)]
      refine ⟨b, h2, h3.trans ?_⟩
      rw [List.sum_cons]
      constructor
      · rintro ⟨a1, a2⟩; exact ⟨⟨fun h => by omega, a1⟩, by omega⟩
      · rintro ⟨⟨_, a1⟩, a2⟩; exact ⟨a1, by omega⟩
/-- What valid sizes are. -/
def kgood (l : List Int) : Prop := l.length ≤ 12 ∧ (∀ x ∈ l, 1 ≤ x ∧ x ≤ 12) ∧ dsc l 0 ∧ 1 ≤ l.sum ∧ l.sum ≤ 12
theorem areSizes_f (l : List Int) (hn : l.length ≤ 1048576) {k : Nat} (hk : l.length < k) : ∃ q b, impl_areSizes.f k l = some (q, b) ∧ (b = true ↔ kgood l) := by
  obtain ⟨q, b, h1, h2⟩ := areSizes_l0 l hn l.length 0 k 0 (by omega) hk (by omega) (by omega)
  refine ⟨q, b, h1, h2.trans ?_⟩
  rw [List.drop_zero, Int.zero_add]
  exact ⟨fun ⟨a, b, c, d, e⟩ => ⟨c, a, b, d, e⟩, fun ⟨c, a, b, d, e⟩ => ⟨a, b, c, d, e⟩⟩
theorem sum_pos : ∀ (l : List Int), (∀ x ∈ l, 1 ≤ x ∧ x ≤ 12) → (l.length : Int) ≤ l.sum
  | [], _ => by simp
  | x :: l, h => by
    have h1 := sum_pos l (fun y hy => h y (List.mem_cons_of_mem _ hy))
    have h2 := h x List.mem_cons_self
    rw [List.sum_cons, List.length_cons]
    omega
theorem cbKinds_f (l : List Int) (hn : l.length ≤ 1048576) {k : Nat} (hk : l.length + 2 < k) : ∃ b, spec_cbKinds.f k l = some b ∧ (b = true ↔ kgood l) := by
  obtain ⟨k, rfl⟩ : ∃ q, k = q + 1 := ⟨k - 1, by omega⟩
  unfold spec_cbKinds.f
  rw [in_f]
  simp only [Option.bind_some]
  by_cases h : 1 ≤ (l.length : Int) ∧ (l.length : Int) ≤ 12
  · rw [if_pos (by simpa using h)]
    obtain ⟨r, h1, h2⟩ := l1All_l0 l 1 12 hn l.length 0 (k + 1) (by omega) (by omega)
    have h1' : spec_l1All.f (k + 1) l 1 12 = some r := h1
    rw [h1']
    simp only [Option.bind_some, spec_cbKinds.j0]
    rw [List.drop_zero] at h2
    cases r with
    | false => exact ⟨false, by simp, by simp only [Bool.false_eq_true, false_iff]; exact fun hg => by have := h2.2 hg.2.1; cases this⟩
    | true =>
      have hin := h2.1 rfl
      obtain ⟨b, h3, h4⟩ := cbKinds_l0 l (by omega) hin l.length 0 k 0 (by omega) (by omega) (by omega) (by omega)
      refine ⟨b, by simpa using h3, h4.trans ?_⟩
      rw [List.drop_zero, Int.zero_add]
      have := sum_pos l hin
      exact ⟨fun ⟨a, b⟩ => ⟨by omega, hin, a, by omega, b⟩, fun ⟨_, _, a, _, b⟩ => ⟨a, b⟩⟩
  · rw [if_neg (by simpa using h)]
    refine ⟨false, by simp [spec_cbKinds.j0], ?_⟩
    simp only [Bool.false_eq_true, false_iff]
    rintro ⟨a, _, _, c, _⟩
    apply h
    refine ⟨?_, by omega⟩
    cases l with
    | nil => simp at c
    | cons x l => simp; omega
/-- Each group's number, as often as its size. -/
def fb : List Int → Nat → List Int
  | [], _ => []
  | n :: ns, g => List.replicate n.toNat (g : Int) ++ fb ns (g + 1)
theorem rep_l1 (l : List Int) (g : Nat) : ∀ (m : Nat) (k : Nat) (out : List Int), m < k → m ≤ 12 → out.length + m ≤ 1000000 → spec_FirstBySizes.l1 k out (g : Int) (m : Int) l (l.length : Int) (g : Int) = spec_FirstBySizes.l0 (k - m - 1) (out ++ List.replicate m (g : Int)) l (l.length : Int) (wrap64 ((g : Int) + 1))
  | 0, k, out, hk, hm, ho => by
    obtain ⟨k, rfl⟩ : ∃ q, k = q + 1 := ⟨k - 1, by omega⟩
    simp only [spec_FirstBySizes.l1]
    rw [if_neg (by omega)]
    simp
  | m + 1, k, out, hk, hm, ho => by
    obtain ⟨k, rfl⟩ : ∃ q, k = q + 1 := ⟨k - 1, by omega⟩
    simp only [spec_FirstBySizes.l1]
    rw [if_pos (by omega), if_pos (by omega), w64 (x := ((m + 1 : Nat) : Int) - 1) (by omega) (by omega), show ((m + 1 : Nat) : Int) - 1 = (m : Int) by omega]
    rw [rep_l1 l g m k (out ++ [(g : Int)]) (by omega) (by omega) (by simp; omega)]
    rw [List.append_assoc, show k + 1 - (m + 1) - 1 = k - m - 1 by omega, List.replicate_succ]
    rfl
theorem spec_fb (l : List Int) (hn : l.length ≤ 12) (hin : ∀ x ∈ l, 1 ≤ x ∧ x ≤ 12) : ∀ (d i k : Nat) (out : List Int), i + d = l.length → 20 * d < k → out.length ≤ 12 * i → spec_FirstBySizes.l0 k out l (l.length : Int) (i : Int) = some (out ++ fb (l.drop i) i, true)
  | 0, i, k, out, hi, hk, ho => by
    obtain ⟨k, rfl⟩ : ∃ q, k = q + 1 := ⟨k - 1, by omega⟩
    simp only [spec_FirstBySizes.l0]
    rw [if_neg (by omega), List.drop_eq_nil_of_le (by omega)]
    simp [fb]
  | d + 1, i, k, out, hi, hk, ho => by
    obtain ⟨k, rfl⟩ : ∃ q, k = q + 1 := ⟨k - 1, by omega⟩
    have ha : i < l.length := by omega
    have hx := hin l[i] (List.getElem_mem ha)
    simp only [spec_FirstBySizes.l0]
    rw [if_pos (by omega), if_pos (by omega), if_pos (by omega), rd_lt ha]
    have e : l[i] = ((l[i].toNat : Nat) : Int) := by omega
    rw [e, rep_l1 l i l[i].toNat k out (by omega) (by omega) (by omega), up64 ha (by omega)]
    rw [spec_fb l hn hin d (i + 1) _ _ (by omega) (by omega) (by simp; omega), List.drop_eq_getElem_cons ha, List.append_assoc]
    simp only [fb]
theorem impl_fb (l : List Int) (hn : l.length ≤ 12) (hin : ∀ x ∈ l, 1 ≤ x ∧ x ≤ 12) : ∀ (d i k : Nat) (out : List Int), i + d = l.length → d < k → out.length ≤ 12 * i → impl_bySizes.l0 k out l (l.length : Int) (i : Int) = some (out ++ fb (l.drop i) i)
  | 0, i, k, out, hi, hk, ho => by
    obtain ⟨k, rfl⟩ : ∃ q, k = q + 1 := ⟨k - 1, by omega⟩
    simp only [impl_bySizes.l0]
    rw [if_neg (by omega), List.drop_eq_nil_of_le (by omega)]
    simp [fb]
  | d + 1, i, k, out, hi, hk, ho => by
    obtain ⟨k, rfl⟩ : ∃ q, k = q + 1 := ⟨k - 1, by omega⟩
    have ha : i < l.length := by omega
    have hx := hin l[i] (List.getElem_mem ha)
    have hr : slices_Repeat_int_int.f [(i : Int)] l[i] = some (List.replicate l[i].toNat (i : Int)) := by
      unfold slices_Repeat_int_int.f
      rw [if_pos ⟨rfl, by omega, by omega⟩]
      rfl
    simp only [impl_bySizes.l0]
    rw [if_pos (by omega), if_pos (by omega), if_pos (by omega), rd_lt ha, hr]
    simp only [Option.bind_some]
    rw [if_pos (by simp; omega), up64 ha (by omega)]
    rw [impl_fb l hn hin d (i + 1) _ _ (by omega) (by omega) (by simp; omega), List.drop_eq_getElem_cons ha, List.append_assoc]
    simp only [fb]
theorem areSizes_q (l : List Int) (hn : l.length ≤ 1048576) : ∀ (d i k : Nat) (s q : Int), i + d = l.length → d < k → 0 ≤ s → s ≤ 12 * (i : Int) → impl_areSizes.l0 k l s l (l.length : Int) (i : Int) = some (q, true) → q = s + (l.drop i).sum
  | 0, i, k, s, q, hi, hk, h0, h1, h => by
    obtain ⟨k, rfl⟩ : ∃ q, k = q + 1 := ⟨k - 1, by omega⟩
    have hd : l.drop i = [] := List.drop_eq_nil_of_le (by omega)
    simp only [impl_areSizes.l0] at h
    rw [if_neg (by omega)] at h
    unfold impl_areWires.f at h
    rw [within_f] at h
    rw [hd]
    by_cases hc : (l.length : Int) ≤ 12
    · rw [if_pos hc] at h
      simp only [Option.bind_some, Option.some.injEq, Prod.mk.injEq] at h
      simp
      omega
    · rw [if_neg hc] at h
      simp at h
  | d + 1, i, k, s, q, hi, hk, h0, h1, h => by
    obtain ⟨k, rfl⟩ : ∃ q, k = q + 1 := ⟨k - 1, by omega⟩
    have ha : i < l.length := by omega
    have hdr : l.drop i = l[i] :: l.drop (i + 1) := List.drop_eq_getElem_cons ha
    simp only [impl_areSizes.l0] at h
    rw [if_pos (by omega), if_pos (by omega), if_pos (by omega), within_f, rd_lt ha] at h
    simp only [Option.bind_some] at h
    rw [hdr, List.sum_cons]
    by_cases hx : 1 ≤ l[i] ∧ l[i] ≤ 12
    · rw [if_pos (by simpa using hx)] at h
      have he : wrap64 (s + l[i]) = s + l[i] := w64 (by omega) (by omega)
      rw [he, up64 ha (by omega)] at h
      have key : impl_areSizes.l0 k l (s + l[i]) l (l.length : Int) ((i + 1 : Nat) : Int) = some (q, true) := by
        by_cases hi0 : (i : Int) > 0
        · rw [if_pos hi0] at h
          split at h
          · split at h
            · split at h
              · simp at h
              · exact h
            · simp at h
          · simp at h
        · rw [if_neg hi0] at h
          exact h
      have := areSizes_q l hn d (i + 1) k (s + l[i]) q (by omega) (by omega) (by omega) (by omega) key
      omega
    · rw [if_neg (by simpa using hx)] at h
      simp at h
theorem cbOf_l0 (l : List Int) (hn : l.length ≤ 12) (hin : ∀ x ∈ l, 1 ≤ x ∧ x ≤ 12) (w : Int) : ∀ (d i k : Nat) (s : Int), i + d = l.length → d < k → 0 ≤ s → s ≤ 12 * (i : Int) → spec_cbOf.l0 k w s l (l.length : Int) (i : Int) = some (s + (l.drop i).sum == w)
  | 0, i, k, s, hi, hk, h0, h1 => by
    obtain ⟨k, rfl⟩ : ∃ q, k = q + 1 := ⟨k - 1, by omega⟩
    simp only [spec_cbOf.l0]
    rw [if_neg (by omega), List.drop_eq_nil_of_le (by omega)]
    simp
  | d + 1, i, k, s, hi, hk, h0, h1 => by
    obtain ⟨k, rfl⟩ : ∃ q, k = q + 1 := ⟨k - 1, by omega⟩
    have ha : i < l.length := by omega
    have hx := hin l[i] (List.getElem_mem ha)
    simp only [spec_cbOf.l0]
    rw [if_pos (by omega), if_pos (by omega), if_pos (by omega), rd_lt ha, w64 (x := s + l[i]) (by omega) (by omega), up64 ha (by omega), cbOf_l0 l hn hin w d (i + 1) k (s + l[i]) (by omega) (by omega) (by omega) (by omega), List.drop_eq_getElem_cons ha, List.sum_cons, Int.add_assoc]
theorem rg_rep (g : Nat) (t : List Int) : ∀ m : Nat, 1 ≤ m → rg g (List.replicate m (g : Int) ++ t) = rg (g + 1) t := by
  have aux : ∀ m : Nat, rg (g + 1) (List.replicate m (g : Int) ++ t) = rg (g + 1) t := by
    intro m
    induction m with
    | zero => simp
    | succ m ih =>
      rw [List.replicate_succ, List.cons_append]
      simp only [rg]
      rw [if_neg (by omega), ih, decide_eq_true (by omega), decide_eq_true (by omega)]
      simp
  intro m hm
  obtain ⟨m, rfl⟩ : ∃ q, m = q + 1 := ⟨m - 1, by omega⟩
  rw [List.replicate_succ, List.cons_append]
  simp only [rg]
  rw [if_pos trivial, aux, decide_eq_true (by omega), decide_eq_true (by omega)]
  simp
theorem fb_rg : ∀ (l : List Int) (g : Nat), (∀ x ∈ l, 1 ≤ x ∧ x ≤ 12) → rg g (fb l g) = true ∧ ((fb l g).length : Int) = l.sum
  | [], g, _ => ⟨rfl, rfl⟩
  | x :: l, g, h => by
    obtain ⟨h1, h2⟩ := fb_rg l (g + 1) (fun y hy => h y (List.mem_cons_of_mem _ hy))
    have hx := h x List.mem_cons_self
    simp only [fb]
    refine ⟨?_, ?_⟩
    · rw [rg_rep g _ _ (by omega)]
      exact h1
    · rw [List.length_append, List.length_replicate, List.sum_cons]
      omega
/-- Does a grouping with sizes tell all wires with a first one? -/
def tl (a b : List Int) (gs : List (List Int)) : Bool := gs.any fun g => decide (likes (labs a g) = []) && decide (sz g = b)
theorem sp_l0 (b : List Int) (hb : b.length ≤ 1048576) (rows : List (List Int)) (hl : rows.length ≤ 2097152) (hr : ∀ g ∈ rows, rg 0 g = true ∧ g.length ≤ 7) : ∀ (d i k : Nat), i + d = rows.length → 4000000 + d < k →
    spec_SizesTell.l0 k b rows (rows.length : Int) (i : Int) = some ((rows.drop i).any (fun g => decide (sz g = b)), true)
  | 0, i, k, hi, hk => by
    obtain ⟨k, rfl⟩ : ∃ q, k = q + 1 := ⟨k - 1, by omega⟩
    simp only [spec_SizesTell.l0]
    rw [if_neg (by omega), List.drop_eq_nil_of_le (by omega)]
    rfl
  | d + 1, i, k, hi, hk => by
    obtain ⟨k, rfl⟩ : ∃ q, k = q + 1 := ⟨k - 1, by omega⟩
    have hil : i < rows.length := by omega
    obtain ⟨h1, h2⟩ := hr rows[i] (List.getElem_mem hil)
    have e : rows.getD i [] = rows[i] := by rw [List.getD_eq_getElem?_getD, List.getElem?_eq_getElem hil]; rfl
    have hz := sz_len rows[i] h1 (by omega)
    simp only [spec_SizesTell.l0]
    rw [if_pos (by omega), if_pos (by omega), if_pos (by omega), rdL_lt, e, cbSizes_f rows[i] h1 (by omega) (by omega)]
    simp only [Option.bind_some]
    rw [l1Same_f _ _ (by omega) (by omega)]
    simp only [Option.bind_some]
    rw [List.drop_eq_getElem_cons hil, List.any_cons]
    by_cases hc : sz rows[i] = b
    · rw [if_pos (by simpa using hc), decide_eq_true hc]
      rfl
    · rw [if_neg (by simpa using hc), decide_eq_false hc, up64 hil (by omega), sp_l0 b hb rows hl hr d (i + 1) k (by omega) (by omega)]
      simp
theorem st_runL (k : Nat) (hk : 4000000 ≤ k) (l1 a b : List Int) (hq : impl_bySizes.f k l1 = some a) (ha : rg 0 a = true) (h1 : 1 ≤ a.length) (hn : a.length ≤ 7) : ∀ rows : List (List Int), (∀ g ∈ rows, rg 0 g = true ∧ g.length = a.length) →
    runL (impl_SizesTell.step k l1 b) rows () = some ((), !(tl a b rows))
  | [], _ => rfl
  | g :: rows, h => by
    obtain ⟨h2, h3⟩ := h g List.mem_cons_self
    have ih := st_runL k hk l1 a b hq ha h1 hn rows (fun x hx => h x (List.mem_cons_of_mem _ hx))
    have hz := sz_len g h2 (by omega)
    simp only [runL, impl_SizesTell.step]
    rw [sizesOf_f g h2 (by omega) (by omega) hk]
    simp only [Option.bind_some]
    rw [equal_f _ _ (by omega) (by omega)]
    simp only [Option.bind_some]
    unfold tl at ih ⊢
    rw [List.any_cons]
    by_cases hc : sz g = b
    · rw [if_pos (by simpa using hc), hq]
      simp only [Option.bind_some]
      rw [tells_f a g h1 (by omega) h3.symm ha h2 (by omega)]
      simp only [Option.bind_some]
      by_cases hl : likes (labs a g) = []
      · simp [hl, hc]
      · simp only [hl, decide_false, Bool.not_false, if_true, Bool.false_and, Bool.false_or]
        exact ih
    · rw [if_neg (by simpa using hc)]
      simp only [Option.bind_some, if_true, hc, decide_false, Bool.and_false, Bool.false_or]
      exact ih
theorem sum_nn (l : List Int) (h : kgood l) : 1 ≤ l.sum ∧ l.sum ≤ 12 := ⟨h.2.2.2.1, h.2.2.2.2⟩
theorem areSizes_v (l : List Int) (hn : l.length ≤ 1048576) {k : Nat} (hk : l.length < k) : ∃ q b, impl_areSizes.f k l = some (q, b) ∧ (b = true ↔ kgood l) ∧ (b = true → q = l.sum) := by
  obtain ⟨q, b, h1, h2⟩ := areSizes_f l hn hk
  refine ⟨q, b, h1, h2, fun hb => ?_⟩
  subst hb
  have := areSizes_q l hn l.length 0 k 0 q (by omega) hk (by omega) (by omega) h1
  simpa using this
theorem cbOf_f (l : List Int) (hn : l.length ≤ 1048576) (w : Int) {k : Nat} (hk : l.length + 2 < k) : ∃ b, spec_cbOf.f k w l = some b ∧ (b = true ↔ kgood l ∧ l.sum = w) := by
  obtain ⟨b, h1, h2⟩ := cbKinds_f l hn hk
  unfold spec_cbOf.f
  rw [h1]
  simp only [Option.bind_some]
  cases b with
  | false => exact ⟨false, by simp, by simp only [Bool.false_eq_true, false_iff]; exact fun hg => by have := h2.2 hg.1; cases this⟩
  | true =>
    have hg := h2.1 rfl
    rw [if_pos rfl]
    have := cbOf_l0 l hg.1 hg.2.1 w l.length 0 k 0 (by omega) (by omega) (by omega) (by omega)
    refine ⟨_, this, ?_⟩
    simp [hg]
theorem st_both (a0 : Int) (l1 l2 : List Int) (hn1 : l1.length ≤ 1048576) (hn2 : l2.length ≤ 1048576) {k : Nat} (hk : 20000000 ≤ k) : ∃ r, spec_SizesTell.f k a0 l1 l2 = some r ∧ impl_SizesTell.f k a0 l1 l2 = some r := by
  obtain ⟨q1, b1, e1, f1, v1⟩ := areSizes_v l1 hn1 (k := k) (by omega)
  obtain ⟨q2, b2, e2, f2, v2⟩ := areSizes_v l2 hn2 (k := k) (by omega)
  obtain ⟨o1, p1, u1⟩ := cbOf_f l1 hn1 a0 (k := k) (by omega)
  obtain ⟨o2, p2, u2⟩ := cbOf_f l2 hn2 a0 (k := k) (by omega)
  obtain ⟨k', rfl⟩ : ∃ q, k = q + 1 := ⟨k - 1, by omega⟩
  have j0 : spec_SizesTell.j0 (k' + 1) l1 l2 true = some (false, false) := by simp [spec_SizesTell.j0]
  unfold spec_SizesTell.f impl_SizesTell.f
  rw [e1, e2, cbFew_f, listed_f, p1, p2]
  simp only [Option.bind_some]
  by_cases ht : 1 ≤ a0 ∧ a0 ≤ 7
  · rw [if_pos (decide_eq_true ht), if_pos (decide_eq_true ht)]
    by_cases hall : (kgood l1 ∧ l1.sum = a0) ∧ (kgood l2 ∧ l2.sum = a0)
    · obtain ⟨⟨g1, s1⟩, ⟨g2, s2⟩⟩ := hall
      obtain rfl := f1.2 g1
      obtain rfl := f2.2 g2
      obtain rfl := u1.2 ⟨g1, s1⟩
      obtain rfl := u2.2 ⟨g2, s2⟩
      have w1 := v1 rfl
      have w2 := v2 rfl
      obtain ⟨r1, r2⟩ := fb_rg l1 0 g1.2.1
      have hlen : (fb l1 0).length = a0.toNat := by omega
      have hle := allg0_le (wires := a0.toNat) (by omega)
      refine ⟨(tl (fb l1 0) l2 (allg a0.toNat [] 0), true), ?_, ?_⟩
      · simp only [if_true, Bool.not_true, spec_SizesTell.j0, Bool.false_eq_true, if_false]
        have hf : spec_FirstBySizes.f k' l1 = some (fb l1 0, true) := by
          obtain ⟨b, c1, c2⟩ := cbKinds_f l1 hn1 (k := k') (by omega)
          obtain rfl : b = true := c2.2 g1
          unfold spec_FirstBySizes.f
          rw [c1]
          simp only [Option.bind_some, if_true]
          have := spec_fb l1 g1.1 g1.2.1 l1.length 0 k' [] (by omega) (by have := g1.1; omega) (by simp)
          simpa using this
        rw [hf]
        simp only [Option.bind_some]
        rw [cbPartners_f (fb l1 0) r1 (by omega) (by omega)]
        simp only [Option.bind_some]
        have hp : (parts (fb l1 0)).length ≤ 2097152 := by
          unfold parts
          rw [hlen]
          exact Nat.le_trans (List.length_filter_le _ _) hle
        have := sp_l0 l2 hn2 (parts (fb l1 0)) hp (fun g hg => by
          unfold parts at hg
          have := allg0_mem (List.mem_filter.1 hg).1
          exact ⟨this.1, by omega⟩) (parts (fb l1 0)).length 0 k' (by omega) (by omega)
        rw [show ((0 : Nat) : Int) = 0 from rfl] at this
        rw [this, List.drop_zero]
        unfold tl parts
        rw [List.any_filter, hlen]
      · rw [if_pos rfl, if_pos rfl, if_pos (by omega), if_pos (by omega), if_pos (by omega), walk_runL]
        have hq : impl_bySizes.f (k' + 1) l1 = some (fb l1 0) := by
          have := impl_fb l1 g1.1 g1.2.1 l1.length 0 (k' + 1) [] (by omega) (by omega) (by simp)
          unfold impl_bySizes.f
          simpa using this
        rw [st_runL (k' + 1) (by omega) l1 (fb l1 0) l2 hq r1 (by omega) (by omega) _ (fun g hg => by
          have := allg0_mem hg
          exact ⟨this.1, by omega⟩)]
        simp
    · refine ⟨(false, false), ?_, ?_⟩
      · cases o1 with
        | false => simp [j0]
        | true =>
          cases o2 with
          | false => simp [j0]
          | true => exact absurd ⟨u1.1 rfl, u2.1 rfl⟩ hall
      · cases b1 with
        | false => simp
        | true =>
          cases b2 with
          | false => simp
          | true =>
            have w1 := v1 rfl
            have w2 := v2 rfl
            rw [if_pos rfl, if_pos rfl]
            by_cases hx : q1 = a0
            · rw [if_pos hx]
              by_cases hy : q2 = a0
              · exact absurd ⟨⟨f1.1 rfl, by omega⟩, ⟨f2.1 rfl, by omega⟩⟩ hall
              · rw [if_neg hy]
            · rw [if_neg hx]
  · rw [if_neg (by simpa using ht), if_neg (by simpa using ht), j0]
    exact ⟨_, rfl, rfl⟩
theorem FnExactSizesTell : ∀ (a0 : Int) (l1 : List Int) (l2 : List Int), (Lit.int .i64 a0).wf = true → l1.length ≤ maxLen → (∀ x ∈ l1, (fun n => (Lit.int .i64 n).wf = true) x) → l2.length ≤ maxLen → (∀ x ∈ l2, (fun n => (Lit.int .i64 n).wf = true) x) → ∃ k, laws_FnExactSizesTell.f k a0 l1 l2 = some true := by
  intro a0 l1 l2 _ _ _ _ _
  refine ⟨20000010, ?_⟩
  unfold laws_FnExactSizesTell.f
  by_cases h1 : l1.length ≤ 1048576
  · rw [if_neg (by omega)]
    by_cases h2 : l2.length ≤ 1048576
    · rw [if_neg (by omega)]
      obtain ⟨r, e1, e2⟩ := st_both a0 l1 l2 h1 h2 (k := 20000010) (by omega)
      have t1 : ∀ k, 20000000 ≤ k → laws_toIntS.f k l1 = some l1 := fun k hk => toIntS_f l1 h1 (by omega)
      have t2 : ∀ k, 20000000 ≤ k → laws_toIntS.f k l2 = some l2 := fun k hk => toIntS_f l2 h2 (by omega)
      have q1 : ∀ k, 20000000 ≤ k → laws_eqIntS.f k l1 l1 = some true := fun k hk => by rw [eqIntS_f l1 l1 (by omega) (by omega)]; simp
      have q2 : ∀ k, 20000000 ≤ k → laws_eqIntS.f k l2 l2 = some true := fun k hk => by rw [eqIntS_f l2 l2 (by omega) (by omega)]; simp
      rw [t1 20000010 (by omega), t2 20000010 (by omega)]
      simp only [Option.bind_some, e1, e2, bne_self_eq_false, Bool.false_eq_true, if_false]
      rw [show (20000010 : Nat) = 20000009 + 1 from rfl]
      simp only [laws_FnExactSizesTell.j0, Bool.false_eq_true, if_false]
      rw [t1 20000009 (by omega), t2 20000009 (by omega)]
      simp [q1, q2]
    · rw [if_pos (by omega)]
  · rw [if_pos (by omega)]

end Go.Proofs.Ytelhcooeafhgoaa.Pure
