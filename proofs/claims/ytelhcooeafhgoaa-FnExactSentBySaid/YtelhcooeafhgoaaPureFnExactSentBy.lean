/- For every delay, every number of people, every list of sends and every person the program's SentBy and the reference's agree; no conditions. -/
import Derived.Test.YtelhcooeafhgoaaPFnExactSentByx10
set_option linter.unusedSimpArgs false
set_option linter.unusedVariables false
namespace Go.Proofs.Ytelhcooeafhgoaa.Pure
open Go.RowKit Go.Proofs.Ytelhcooeafhgoaa.PFnExactSentBy Go.Proofs.YtelhcooeafhgoaaW.PrintWords Go.Proofs.YtelhcooeafhgoaaW.PrintLast Go.Proofs.YtelhcooeafhgoaaW.PrintMore

theorem w64 {x : Int} (h0 : -9223372036854775808 ≤ x) (h1 : x ≤ 9223372036854775807) : wrap64 x = x := by unfold wrap64; omega
theorem up64 {i n : Nat} (h : i < n) (hn : n ≤ 4611686018427387904) : wrap64 ((i : Int) + 1) = ((i + 1 : Nat) : Int) := by rw [w64 (by omega) (by omega)]; omega
theorem rd_lt {xs : List Int} {i : Nat} (h : i < xs.length) : rd xs (i : Int) = xs[i] := by unfold rd; simp [List.getD_eq_getElem?_getD, h]
/-- An element of the law's own type, as the program's. -/
def cvSend (x : S69) : S67 := ⟨x.f0, x.f1, x.f2⟩
theorem rdSend0 {xs : List S69} {i : Nat} (h : i < xs.length) : rd_T69 xs (i : Int) = xs[i] := by unfold rd_T69; simp [List.getD_eq_getElem?_getD, h]
theorem rdSend1 {xs : List S67} {i : Nat} (h : i < xs.length) : rd_T67 xs (i : Int) = xs[i] := by unfold rd_T67; simp [List.getD_eq_getElem?_getD, h]
theorem toSendS_l0 (a : List S69) (hn : a.length ≤ 4611686018427387904) : ∀ (d i k : Nat), i + d = a.length → d < k → laws_toSendS.l0 k a ((a.take i).map cvSend ++ List.replicate d z67) (i : Int) = some (a.map cvSend)
  | 0, i, k, hi, hk => by
    obtain ⟨k, rfl⟩ : ∃ q, k = q + 1 := ⟨k - 1, by omega⟩
    simp only [laws_toSendS.l0]
    rw [if_neg (by omega), List.take_of_length_le (by omega)]
    simp
  | d + 1, i, k, hi, hk => by
    obtain ⟨k, rfl⟩ : ∃ q, k = q + 1 := ⟨k - 1, by omega⟩
    have ih := toSendS_l0 a hn d (i + 1) k (by omega) (by omega)
    have ha : i < a.length := by omega
    simp only [laws_toSendS.l0, laws_toSend.f, Option.bind_some]
    rw [if_pos (by omega), if_pos (by omega), if_pos (by simp; omega), up64 ha hn, rdSend0 ha]
    have he : ((a.take i).map cvSend ++ List.replicate (d + 1) z67).set ((i : Nat) : Int).toNat (cvSend a[i]) = (a.take (i + 1)).map cvSend ++ List.replicate d z67 := by
      rw [List.set_append_right _ _ (by simp; omega), List.replicate_succ]
      have e : ((i : Nat) : Int).toNat - ((a.take i).map cvSend).length = 0 := by simp; omega
      rw [e, List.set_cons_zero, List.take_succ_eq_append_getElem ha]
      simp only [List.append_assoc, List.singleton_append, List.map_append, List.map_cons, List.map_nil]
    exact (congrArg (fun z => laws_toSendS.l0 k a z ((i + 1 : Nat) : Int)) he).trans ih
theorem toSendS_f (a : List S69) (hn : a.length ≤ 1048576) {k : Nat} (hk : a.length < k) : laws_toSendS.f k a = some (a.map cvSend) := by
  unfold laws_toSendS.f
  rw [if_pos (by omega), if_pos (by omega)]
  exact toSendS_l0 a (by omega) a.length 0 k (by omega) hk
theorem eqSendS_l0 (a : List S67) (hn : a.length ≤ 4611686018427387904) : ∀ (d i k : Nat), i + d = a.length → d < k → laws_eqSendS.l0 k a a (i : Int) = some true
  | 0, i, k, hi, hk => by
    obtain ⟨k, rfl⟩ : ∃ q, k = q + 1 := ⟨k - 1, by omega⟩
    simp only [laws_eqSendS.l0]
    rw [if_neg (by omega)]
  | d + 1, i, k, hi, hk => by
    obtain ⟨k, rfl⟩ : ∃ q, k = q + 1 := ⟨k - 1, by omega⟩
    have ih := eqSendS_l0 a hn d (i + 1) k (by omega) (by omega)
    have ha : i < a.length := by omega
    simp only [laws_eqSendS.l0, laws_eqSend.f]
    rw [if_pos (by omega), if_pos (by omega), if_pos (by omega), up64 ha hn]
    simpa using ih
theorem eqSendS_f (a : List S67) (hn : a.length ≤ 4611686018427387904) {k : Nat} (hk : a.length < k) : laws_eqSendS.f k a a = some true := by
  unfold laws_eqSendS.f
  rw [if_pos rfl]
  exact eqSendS_l0 a hn a.length 0 k (by omega) hk
theorem szSendS_f (a : List S69) (hn : a.length ≤ 9223372036854775807) : laws_szSendS.f a 1048576 = some (if a.length ≤ 1048576 then 1048576 - (a.length : Int) else -1) := by
  unfold laws_szSendS.f
  rw [w64 (by omega) (by omega)]
  by_cases h : a.length ≤ 1048576
  · rw [if_neg (by omega), if_pos h]
  · rw [if_pos (by omega), if_neg h]
theorem eqIntS_l0 (a b : List Int) (hl : a.length = b.length) (hn : a.length ≤ 4611686018427387904) : ∀ (d i k : Nat), i + d = a.length → d < k → laws_eqIntS.l0 k a b (i : Int) = some (decide (a.drop i = b.drop i))
  | 0, i, k, hi, hk => by
    obtain ⟨k, rfl⟩ : ∃ q, k = q + 1 := ⟨k - 1, by omega⟩
    simp only [laws_eqIntS.l0]
    rw [if_neg (by omega), List.drop_eq_nil_of_le (by omega), List.drop_eq_nil_of_le (by omega)]
    simp
  | d + 1, i, k, hi, hk => by
    obtain ⟨k, rfl⟩ : ∃ q, k = q + 1 := ⟨k - 1, by omega⟩
    have ih := eqIntS_l0 a b hl hn d (i + 1) k (by omega) (by omega)
    have ha : i < a.length := by omega
    have hb : i < b.length := by omega
    simp only [laws_eqIntS.l0]
    rw [if_pos (by omega), if_pos (by omega), if_pos (by omega), up64 ha hn, ih, rd_lt ha, rd_lt hb, List.drop_eq_getElem_cons ha, List.drop_eq_getElem_cons hb]
    by_cases e : a[i] = b[i]
    · rw [if_pos e, e]; simp only [List.cons.injEq, true_and]
    · rw [if_neg e]; simp only [List.cons.injEq, e, false_and, decide_false]
theorem eqIntS_f (a b : List Int) (hn : a.length ≤ 4611686018427387904) {k : Nat} (hk : a.length < k) : laws_eqIntS.f k a b = some (decide (a = b)) := by
  unfold laws_eqIntS.f
  by_cases h : a.length = b.length
  · rw [if_pos (by omega)]
    exact eqIntS_l0 a b h hn a.length 0 k (by omega) hk
  · rw [if_neg (by omega), decide_eq_false (fun e => h (by rw [e]))]
/-- The numbers a, a + 1, .. -/
def mk (a : Int) (n : Nat) : List Int := (List.range n).map (fun (j : Nat) => a + (j : Int))
theorem mk_len (a : Int) (n : Nat) : (mk a n).length = n := by simp [mk]
theorem mk_succ (a : Int) (n : Nat) : mk a (n + 1) = mk a n ++ [a + (n : Int)] := by simp [mk, List.range_succ]
theorem mk_rd (a : Int) {n i : Nat} (h : i < n) : rd (mk a n) (i : Int) = a + (i : Int) := by
  rw [rd_lt (by rw [mk_len]; exact h)]
  simp [mk]
theorem markIntS_l0 (l : List Int) (a : Int) (h0 : 0 ≤ a) (h1 : a ≤ 1000000000000) (hn : l.length ≤ 1000000000000) : ∀ (d i k : Nat), i + d = l.length → d < k → laws_markIntS.l0 k (mk a i ++ l.drop i) (a + (i : Int)) (i : Int) = some (a + (l.length : Int), mk a l.length)
  | 0, i, k, hi, hk => by
    obtain ⟨k, rfl⟩ : ∃ q, k = q + 1 := ⟨k - 1, by omega⟩
    have e : i = l.length := by omega
    subst e
    simp only [laws_markIntS.l0]
    rw [if_neg (by rw [List.length_append, mk_len, List.length_drop]; omega), List.drop_eq_nil_of_le (by omega), List.append_nil]
  | d + 1, i, k, hi, hk => by
    obtain ⟨k, rfl⟩ : ∃ q, k = q + 1 := ⟨k - 1, by omega⟩
    have ha : i < l.length := by omega
    have ih := markIntS_l0 l a h0 h1 hn d (i + 1) k (by omega) (by omega)
    simp only [laws_markIntS.l0]
    rw [if_pos (by rw [List.length_append, mk_len, List.length_drop]; omega), if_pos (by omega), up64 ha (by omega), w64 (x := a + (i : Int) + 1) (by omega) (by omega)]
    have he : (mk a i ++ l.drop i).set ((i : Nat) : Int).toNat (a + (i : Int)) = mk a (i + 1) ++ l.drop (i + 1) := by
      rw [List.set_append_right _ _ (by rw [mk_len]; omega), mk_len, mk_succ, List.drop_eq_getElem_cons ha]
      have e : ((i : Nat) : Int).toNat - i = 0 := by omega
      rw [e, List.set_cons_zero]
      simp only [List.append_assoc, List.singleton_append]
    rw [he, show a + (i : Int) + 1 = a + ((i + 1 : Nat) : Int) by omega]
    exact ih
theorem markIntS_f (l : List Int) (a : Int) (h0 : 0 ≤ a) (h1 : a ≤ 1000000000000) (hn : l.length ≤ 1000000000000) {k : Nat} (hk : l.length < k) : laws_markIntS.f k l a = some (a + (l.length : Int), mk a l.length) := by
  have h := markIntS_l0 l a h0 h1 hn l.length 0 k (by omega) hk
  unfold laws_markIntS.f
  simpa [mk] using h
theorem heldIntS_l0 (n : Nat) (a : Int) (h0 : 0 ≤ a) (h1 : a ≤ 1000000000000) (hn : n ≤ 1000000000000) : ∀ (d i k : Nat), i + d = n → d < k → laws_heldIntS.l0 k (mk a n) (a + (i : Int)) (i : Int) = some (a + (n : Int))
  | 0, i, k, hi, hk => by
    obtain ⟨k, rfl⟩ : ∃ q, k = q + 1 := ⟨k - 1, by omega⟩
    have e : i = n := by omega
    subst e
    simp only [laws_heldIntS.l0]
    rw [if_neg (by rw [mk_len]; omega)]
  | d + 1, i, k, hi, hk => by
    obtain ⟨k, rfl⟩ : ∃ q, k = q + 1 := ⟨k - 1, by omega⟩
    have ha : i < n := by omega
    have ih := heldIntS_l0 n a h0 h1 hn d (i + 1) k (by omega) (by omega)
    simp only [laws_heldIntS.l0]
    rw [if_pos (by rw [mk_len]; omega), if_pos (by omega), mk_rd a ha, if_pos rfl, up64 ha (by omega), w64 (x := a + (i : Int) + 1) (by omega) (by omega), show a + (i : Int) + 1 = a + ((i + 1 : Nat) : Int) by omega]
    exact ih
theorem heldIntS_f (n : Nat) (a : Int) (h0 : 0 ≤ a) (h1 : a ≤ 1000000000000) (hn : n ≤ 1000000000000) {k : Nat} (hk : n < k) : laws_heldIntS.f k (mk a n) a = some (a + (n : Int)) := by
  have h := heldIntS_l0 n a h0 h1 hn n 0 k (by omega) hk
  unfold laws_heldIntS.f
  simpa using h
/-- What the marking makes of a list of sends. -/
def msS : Nat → Nat → List S67 → Int → List S67
  | 0, _, x, _ => x
  | d + 1, i, x, a =>
    let y := x.set i ⟨a, (rd_T67 x (i : Int)).f1, (rd_T67 x (i : Int)).f2⟩
    let z := y.set i ⟨(rd_T67 y (i : Int)).f0, a + 1, (rd_T67 y (i : Int)).f2⟩
    msS d (i + 1) (z.set i ⟨(rd_T67 z (i : Int)).f0, (rd_T67 z (i : Int)).f1, a + 2⟩) (a + 3)
theorem markSendS_l0 : ∀ (d i k : Nat) (x : List S67) (a : Int), i + d = x.length → x.length ≤ 1000000000 → 0 ≤ a → a + 3 * (d : Int) ≤ 1000000000000 → d < k → laws_markSendS.l0 k x a (i : Int) = some (a + 3 * (d : Int), msS d i x a)
  | 0, i, k, x, a, hi, hn, h0, h1, hk => by
    obtain ⟨k, rfl⟩ : ∃ q, k = q + 1 := ⟨k - 1, by omega⟩
    simp only [laws_markSendS.l0]
    rw [if_neg (by omega)]
    simp [msS]
  | d + 1, i, k, x, a, hi, hn, h0, h1, hk => by
    obtain ⟨k, rfl⟩ : ∃ q, k = q + 1 := ⟨k - 1, by omega⟩
    have ha : i < x.length := by omega
    simp only [laws_markSendS.l0, Option.bind_some]
    rw [if_pos (by omega), if_pos (by omega), up64 ha (by omega), w64 (x := a + 1) (by omega) (by omega), w64 (x := a + 1 + 1) (by omega) (by omega), w64 (x := a + 1 + 1 + 1) (by omega) (by omega), Int.toNat_natCast]
    rw [show a + 1 + 1 + 1 = a + 3 by omega, show a + 1 + 1 = a + 2 by omega]
    rw [markSendS_l0 d (i + 1) k _ (a + 3) (by simp; omega) (by simp; omega) (by omega) (by omega) (by omega)]
    simp only [msS]
    congr 2
    omega
theorem markSendS_f (x : List S67) (hn : x.length ≤ 1000000000) {k : Nat} (hk : x.length < k) : laws_markSendS.f k x 1 = some (1 + 3 * (x.length : Int), msS x.length 0 x 1) :=
  markSendS_l0 x.length 0 k x 1 (by omega) hn (by omega) (by omega) hk
theorem inS (x lo hi : Int) : spec_l1In.f x lo hi = some (decide (lo ≤ x ∧ x ≤ hi)) := by
  unfold spec_l1In.f
  by_cases h : lo ≤ x
  · rw [if_pos h]; simp [h]
  · rw [if_neg h]; simp [h]
theorem inI (x lo hi : Int) : impl_within.f x lo hi = some (decide (lo ≤ x ∧ x ≤ hi)) := by
  unfold impl_within.f
  by_cases h : lo ≤ x
  · rw [if_pos h]; simp [h]
  · rw [if_neg h]; simp [h]
/-- The second walk: has each one who sends come to know it? -/
theorem arr_l3 (l : List S67) (hn : l.length ≤ 1000) (x8 : List Int) (hf : ∀ c ∈ l, 0 ≤ c.f0 ∧ c.f0 < (x8.length : Int)) : ∀ (dd i : Nat), i + dd = l.length → ∃ r : List Int × Bool, (r.2 = true → r.1 = x8) ∧ (r.2 = false → r.1 = []) ∧ (∀ k, dd < k → spec_deArrivals.l3 k x8 l (l.length : Int) (i : Int) = some r) ∧ (∀ k, dd < k → impl_arrivals.l1 k x8 l (l.length : Int) (i : Int) = some r)
  | 0, i, hi => by
    refine ⟨(x8, true), fun _ => rfl, fun h => (by cases h), fun k hk => ?_, fun k hk => ?_⟩
    · obtain ⟨k, rfl⟩ : ∃ q, k = q + 1 := ⟨k - 1, by omega⟩
      simp only [spec_deArrivals.l3]
      rw [if_neg (by omega)]
    · obtain ⟨k, rfl⟩ : ∃ q, k = q + 1 := ⟨k - 1, by omega⟩
      simp only [impl_arrivals.l1]
      rw [if_neg (by omega)]
  | dd + 1, i, hi => by
    obtain ⟨r, h1, h0, hs, hm⟩ := arr_l3 l hn x8 hf dd (i + 1) (by omega)
    have ha : i < l.length := by omega
    obtain ⟨f0, f1⟩ := hf l[i] (List.getElem_mem ha)
    by_cases e1 : rd x8 l[i].f0 < 0
    · refine ⟨([], false), fun h => (by cases h), fun _ => rfl, fun k hk => ?_, fun k hk => ?_⟩
      · obtain ⟨k, rfl⟩ : ∃ q, k = q + 1 := ⟨k - 1, by omega⟩
        simp only [spec_deArrivals.l3]
        rw [if_pos (by omega), if_pos (by omega), if_pos (by omega), rdSend1 ha, if_pos f0, if_pos f1, if_pos e1]
      · obtain ⟨k, rfl⟩ : ∃ q, k = q + 1 := ⟨k - 1, by omega⟩
        simp only [impl_arrivals.l1]
        rw [if_pos (by omega), if_pos (by omega), if_pos (by omega), rdSend1 ha, if_pos f0, if_pos f1, if_pos e1]
    · by_cases e2 : rd x8 l[i].f0 > l[i].f2
      · refine ⟨([], false), fun h => (by cases h), fun _ => rfl, fun k hk => ?_, fun k hk => ?_⟩
        · obtain ⟨k, rfl⟩ : ∃ q, k = q + 1 := ⟨k - 1, by omega⟩
          simp only [spec_deArrivals.l3]
          rw [if_pos (by omega), if_pos (by omega), if_pos (by omega), rdSend1 ha, if_pos f0, if_pos f1, if_neg e1, if_pos e2]
        · obtain ⟨k, rfl⟩ : ∃ q, k = q + 1 := ⟨k - 1, by omega⟩
          simp only [impl_arrivals.l1]
          rw [if_pos (by omega), if_pos (by omega), if_pos (by omega), rdSend1 ha, if_pos f0, if_pos f1, if_neg e1, if_pos e2]
      · refine ⟨r, h1, h0, fun k hk => ?_, fun k hk => ?_⟩
        · obtain ⟨k, rfl⟩ : ∃ q, k = q + 1 := ⟨k - 1, by omega⟩
          simp only [spec_deArrivals.l3]
          rw [if_pos (by omega), if_pos (by omega), if_pos (by omega), rdSend1 ha, if_pos f0, if_pos f1, if_neg e1, if_neg e2, up64 ha (by omega)]
          exact hs k (by omega)
        · obtain ⟨k, rfl⟩ : ∃ q, k = q + 1 := ⟨k - 1, by omega⟩
          simp only [impl_arrivals.l1]
          rw [if_pos (by omega), if_pos (by omega), if_pos (by omega), rdSend1 ha, if_pos f0, if_pos f1, if_neg e1, if_neg e2, up64 ha (by omega)]
          exact hm k (by omega)
theorem arr_l2 (d a : Int) (l : List S67) (x8 : List Int) (n i : Int) (t : List S67) (hn : t.length ≤ 1000) (c0 c1 c2 : Int) (r : List Int × Bool) (B : Nat) (H : ∀ k, B ≤ k → spec_deArrivals.l1 k d a l x8 l n (wrap64 (i + 1)) = some r) : ∀ (dd j k : Nat), j + dd = t.length → B + dd < k → spec_deArrivals.l2 k d a l x8 l n i t (t.length : Int) (j : Int) c0 c1 c2 = some (if (t.drop j).any (impl_arrivals_1.p c0 c2) then ([], false) else r)
  | 0, j, k, hj, hk => by
    obtain ⟨k, rfl⟩ : ∃ q, k = q + 1 := ⟨k - 1, by omega⟩
    simp only [spec_deArrivals.l2]
    rw [if_neg (by omega), List.drop_eq_nil_of_le (by omega)]
    exact H k (by omega)
  | dd + 1, j, k, hj, hk => by
    obtain ⟨k, rfl⟩ : ∃ q, k = q + 1 := ⟨k - 1, by omega⟩
    have ih := arr_l2 d a l x8 n i t hn c0 c1 c2 r B H dd (j + 1) k (by omega) (by omega)
    have ha : j < t.length := by omega
    simp only [spec_deArrivals.l2]
    rw [if_pos (by omega), if_pos (by omega), if_pos (by omega), rdSend1 ha, up64 ha (by omega), ih, List.drop_eq_getElem_cons ha, List.any_cons]
    unfold impl_arrivals_1.p
    by_cases h0 : t[j].f0 = c0
    · by_cases h2 : t[j].f2 = c2
      · simp [h0, h2]
      · rw [if_pos h0, if_neg h2]
        simp [h0, h2]
    · rw [if_neg h0]
      simp [h0]
theorem rd_set_ne {xs : List Int} {i j : Nat} {v : Int} (h : i ≠ j) : rd (xs.set i v) (j : Int) = rd xs (j : Int) := by
  unfold rd
  simp [List.getD_eq_getElem?_getD, List.getElem?_set, h]
theorem arr_l1 (d a : Int) (ha0 : 1 ≤ a) (ha1 : a ≤ 40) (l : List S67) (hn : l.length ≤ 40) : ∀ (dd i : Nat) (x8 : List Int), i + dd = l.length → (x8.length : Int) = a → rd x8 0 = 0 → (∀ c ∈ l.take i, 0 ≤ c.f0 ∧ c.f0 < a) → ∃ r : List Int × Bool, (r.2 = true → (r.1.length : Int) = a ∧ rd r.1 0 = 0) ∧ (r.2 = false → r.1 = []) ∧ (∀ k, 100 + 60 * dd ≤ k → spec_deArrivals.l1 k d a l x8 l (l.length : Int) (i : Int) = some r) ∧ (∀ k, 100 + 60 * dd ≤ k → impl_arrivals.l0 k d a l x8 l (l.length : Int) (i : Int) = some r)
  | 0, i, x8, hi, hx, h0, hc => by
    rw [List.take_of_length_le (by omega)] at hc
    obtain ⟨r, h1, h2, hs, hm⟩ := arr_l3 l (by omega) x8 (by rw [hx]; exact hc) l.length 0 (by omega)
    refine ⟨r, fun h => by rw [h1 h]; exact ⟨hx, h0⟩, h2, fun k hk => ?_, fun k hk => ?_⟩
    · obtain ⟨k, rfl⟩ : ∃ q, k = q + 1 := ⟨k - 1, by omega⟩
      simp only [spec_deArrivals.l1]
      rw [if_neg (by omega)]
      exact hs k (by omega)
    · obtain ⟨k, rfl⟩ : ∃ q, k = q + 1 := ⟨k - 1, by omega⟩
      simp only [impl_arrivals.l0]
      rw [if_neg (by omega)]
      exact hm k (by omega)
  | dd + 1, i, x8, hi, hx, h0, hc => by
    have ha : i < l.length := by omega
    have wa : wrap64 (a - 1) = a - 1 := w64 (by omega) (by omega)
    have no : ∀ k, 2 ≤ k → spec_deArrivals.j2 k d a l x8 (i : Int) l (l.length : Int) (i : Int) true l[i].f0 l[i].f1 l[i].f2 = some ([], false) := fun k hk => by
      obtain ⟨k, rfl⟩ : ∃ q, k = q + 1 := ⟨k - 1, by omega⟩
      simp only [spec_deArrivals.j2, if_true]
    have no' : ∀ k, 2 ≤ k → impl_arrivals.j1 k d a l x8 (i : Int) l (l.length : Int) (i : Int) true l[i].f0 l[i].f1 l[i].f2 = some ([], false) := fun k hk => by
      obtain ⟨k, rfl⟩ : ∃ q, k = q + 1 := ⟨k - 1, by omega⟩
      simp only [impl_arrivals.j1, if_true]
    have fall : (∀ k, 100 ≤ k → spec_deArrivals.l1 (k + 1) d a l x8 l (l.length : Int) (i : Int) = some ([], false)) → (∀ k, 100 ≤ k → impl_arrivals.l0 (k + 1) d a l x8 l (l.length : Int) (i : Int) = some ([], false)) → ∃ r : List Int × Bool, (r.2 = true → (r.1.length : Int) = a ∧ rd r.1 0 = 0) ∧ (r.2 = false → r.1 = []) ∧ (∀ k, 100 + 60 * (dd + 1) ≤ k → spec_deArrivals.l1 k d a l x8 l (l.length : Int) (i : Int) = some r) ∧ (∀ k, 100 + 60 * (dd + 1) ≤ k → impl_arrivals.l0 k d a l x8 l (l.length : Int) (i : Int) = some r) := fun hs hm => by
      refine ⟨([], false), fun h => (by cases h), fun _ => rfl, fun k hk => ?_, fun k hk => ?_⟩
      · obtain ⟨k, rfl⟩ : ∃ q, k = q + 1 := ⟨k - 1, by omega⟩
        exact hs k (by omega)
      · obtain ⟨k, rfl⟩ : ∃ q, k = q + 1 := ⟨k - 1, by omega⟩
        exact hm k (by omega)
    by_cases p1 : 0 ≤ l[i].f0 ∧ l[i].f0 ≤ a - 1
    case neg =>
      refine fall (fun k hk => ?_) (fun k hk => ?_)
      · simp only [spec_deArrivals.l1]
        rw [if_pos (by omega), if_pos (by omega), if_pos (by omega), rdSend1 ha, wa, inS]
        simp only [p1, decide_false, Option.bind_some, Bool.false_eq_true, if_false]
        exact no k (by omega)
      · simp only [impl_arrivals.l0]
        rw [if_pos (by omega), if_pos (by omega), if_pos (by omega), rdSend1 ha, wa, inI]
        simp only [p1, decide_false, Option.bind_some, Bool.false_eq_true, if_false]
        exact no' k (by omega)
    by_cases p2 : 1 ≤ l[i].f1 ∧ l[i].f1 ≤ a - 1
    case neg =>
      refine fall (fun k hk => ?_) (fun k hk => ?_)
      · simp only [spec_deArrivals.l1]
        rw [if_pos (by omega), if_pos (by omega), if_pos (by omega), rdSend1 ha, wa, inS, inS]
        simp only [p1, p2, decide_false, decide_true, and_self, Option.bind_some, Bool.false_eq_true, if_false, if_true]
        exact no k (by omega)
      · simp only [impl_arrivals.l0]
        rw [if_pos (by omega), if_pos (by omega), if_pos (by omega), rdSend1 ha, wa, inI, inI]
        simp only [p1, p2, decide_false, decide_true, and_self, Option.bind_some, Bool.false_eq_true, if_false, if_true]
        exact no' k (by omega)
    by_cases p3 : l[i].f0 = l[i].f1
    case pos =>
      refine fall (fun k hk => ?_) (fun k hk => ?_)
      · simp only [spec_deArrivals.l1]
        rw [if_pos (by omega), if_pos (by omega), if_pos (by omega), rdSend1 ha, wa, inS, inS]
        simp only [p1, p2, decide_true, and_self, Option.bind_some, if_true]
        rw [if_pos p3]
        exact no k (by omega)
      · simp only [impl_arrivals.l0]
        rw [if_pos (by omega), if_pos (by omega), if_pos (by omega), rdSend1 ha, wa, inI, inI]
        simp only [p1, p2, decide_true, and_self, Option.bind_some, if_true]
        rw [if_pos p3]
        exact no' k (by omega)
    by_cases p4 : 0 ≤ l[i].f2 ∧ l[i].f2 ≤ 60
    case neg =>
      refine fall (fun k hk => ?_) (fun k hk => ?_)
      · simp only [spec_deArrivals.l1]
        rw [if_pos (by omega), if_pos (by omega), if_pos (by omega), rdSend1 ha, wa, inS, inS, inS]
        simp only [p1, p2, p4, decide_true, decide_false, and_self, Option.bind_some, if_true, Bool.false_eq_true, if_false]
        rw [if_neg p3]
        exact no k (by omega)
      · simp only [impl_arrivals.l0, impl_isMinute.f]
        rw [if_pos (by omega), if_pos (by omega), if_pos (by omega), rdSend1 ha, wa, inI, inI, inI]
        simp only [p1, p2, p4, decide_true, decide_false, and_self, Option.bind_some, if_true, Bool.false_eq_true, if_false]
        rw [if_neg p3]
        exact no' k (by omega)
    by_cases p5 : rd x8 l[i].f1 ≥ 0
    case pos =>
      refine fall (fun k hk => ?_) (fun k hk => ?_)
      · simp only [spec_deArrivals.l1]
        rw [if_pos (by omega), if_pos (by omega), if_pos (by omega), rdSend1 ha, wa, inS, inS, inS]
        simp only [p1, p2, p4, decide_true, and_self, Option.bind_some, if_true]
        rw [if_neg p3, if_pos (by omega), if_pos (by omega), decide_eq_true p5]
        exact no k (by omega)
      · simp only [impl_arrivals.l0, impl_isMinute.f]
        rw [if_pos (by omega), if_pos (by omega), if_pos (by omega), rdSend1 ha, wa, inI, inI, inI]
        simp only [p1, p2, p4, decide_true, and_self, Option.bind_some, if_true]
        rw [if_neg p3, if_pos (by omega), if_pos (by omega), decide_eq_true p5]
        exact no' k (by omega)
    have e0 : rd (x8.set l[i].f1.toNat (wrap64 (l[i].f2 + d))) 0 = 0 := by
      have := rd_set_ne (xs := x8) (i := l[i].f1.toNat) (j := 0) (v := wrap64 (l[i].f2 + d)) (by omega)
      exact this.trans h0
    obtain ⟨r, h1, h2, hs, hm⟩ := arr_l1 d a ha0 ha1 l hn dd (i + 1) (x8.set l[i].f1.toNat (wrap64 (l[i].f2 + d))) (by omega) (by simpa using hx) e0 (fun c hm => by
      rw [List.take_succ_eq_append_getElem ha, List.mem_append, List.mem_singleton] at hm
      rcases hm with hm | rfl
      · exact hc c hm
      · exact ⟨p1.1, by omega⟩)
    have hq := arr_l2 d a l (x8.set l[i].f1.toNat (wrap64 (l[i].f2 + d))) (l.length : Int) (i : Int) (l.take i) (by rw [List.length_take]; omega) l[i].f0 l[i].f1 l[i].f2 r (100 + 60 * dd) (fun k hk => by rw [up64 ha (by omega)]; exact hs k hk) (l.take i).length 0
    have hlt : (l.take i).length = i := by rw [List.length_take]; omega
    rw [hlt] at hq
    refine ⟨if (l.take i).any (impl_arrivals_1.p l[i].f0 l[i].f2) then ([], false) else r, ?_, ?_, fun k hk => ?_, fun k hk => ?_⟩
    · split
      · intro h; cases h
      · exact h1
    · split
      · intro _; rfl
      · exact h2
    · obtain ⟨k, rfl⟩ : ∃ q, k = q + 2 := ⟨k - 2, by omega⟩
      simp only [spec_deArrivals.l1]
      rw [if_pos (by omega), if_pos (by omega), if_pos (by omega), rdSend1 ha, wa, inS, inS, inS]
      simp only [p1, p2, p4, decide_true, and_self, Option.bind_some, if_true]
      rw [if_neg p3, if_pos (by omega), if_pos (by omega), decide_eq_false p5]
      simp only [spec_deArrivals.j2, Bool.false_eq_true, if_false]
      rw [if_pos (by omega), if_pos (by omega), if_pos (by omega), if_pos (by omega), Int.toNat_natCast]
      have := hq k (by omega) (by omega)
      simp only [Option.bind_some, hlt]
      exact this
    · obtain ⟨k, rfl⟩ : ∃ q, k = q + 2 := ⟨k - 2, by omega⟩
      simp only [impl_arrivals.l0, impl_isMinute.f]
      rw [if_pos (by omega), if_pos (by omega), if_pos (by omega), rdSend1 ha, wa, inI, inI, inI]
      simp only [p1, p2, p4, decide_true, and_self, Option.bind_some, if_true]
      rw [if_neg p3, if_pos (by omega), if_pos (by omega), decide_eq_false p5]
      simp only [impl_arrivals.j1, Bool.false_eq_true, if_false, impl_arrivals_1.f, Option.bind_some]
      rw [if_pos (by omega), if_pos (by omega), Int.toNat_natCast]
      by_cases e : (l.take i).any (impl_arrivals_1.p l[i].f0 l[i].f2) = true
      · rw [if_pos e, if_pos e]
      · rw [if_neg e, if_neg e, if_pos (by omega), if_pos (by omega), up64 ha (by omega)]
        exact hm k (by omega)
theorem arr_l0 (d a : Int) (l : List S67) (m : Nat) (hm : m ≤ 40) (r : List Int × Bool) (B : Nat) (hpos : 0 < m) (H : ∀ k, B ≤ k → spec_deArrivals.l1 k d a l ((List.replicate m (-1)).set 0 0) l (l.length : Int) 0 = some r) : ∀ (dd i k : Nat), i + dd = m → B + dd < k → spec_deArrivals.l0 k d a l (List.replicate i (-1) ++ List.replicate dd 0) (m : Int) (i : Int) = some r
  | 0, i, k, hi, hk => by
    obtain ⟨k, rfl⟩ : ∃ q, k = q + 1 := ⟨k - 1, by omega⟩
    simp only [spec_deArrivals.l0]
    rw [if_neg (by omega), if_pos (by simp; omega)]
    have e : i = m := by omega
    subst e
    simpa using H k (by omega)
  | dd + 1, i, k, hi, hk => by
    obtain ⟨k, rfl⟩ : ∃ q, k = q + 1 := ⟨k - 1, by omega⟩
    have ih := arr_l0 d a l m hm r B hpos H dd (i + 1) k (by omega) (by omega)
    simp only [spec_deArrivals.l0]
    rw [if_pos (by omega), if_pos (by omega), if_pos (by simp; omega), w64 (x := (i : Int) + 1) (by omega) (by omega)]
    have e : (List.replicate i (-1 : Int) ++ List.replicate (dd + 1) 0).set ((i : Nat) : Int).toNat (-1) = List.replicate (i + 1) (-1) ++ List.replicate dd 0 := by
      rw [Int.toNat_natCast, List.set_append_right _ _ (by simp), List.length_replicate, Nat.sub_self, List.replicate_succ (n := dd), List.set_cons_zero, List.replicate_succ' (n := i)]
      simp
    rw [e]
    exact ih
/-- The two tellings of the arrivals agree. -/
theorem arr_both (d a : Int) (ha0 : 1 ≤ a) (ha1 : a ≤ 40) (l : List S67) (hl : l.length ≤ 1048576) : ∃ r : List Int × Bool, (r.2 = true → (r.1.length : Int) = a ∧ rd r.1 0 = 0) ∧ (r.2 = false → r.1 = []) ∧ (∀ k, 5000 ≤ k → spec_deArrivals.f k d a l = some r) ∧ (∀ k, 5000 ≤ k → impl_arrivals.f k d a l = some r) := by
  by_cases h : (l.length : Int) > 40
  · refine ⟨([], false), fun h => (by cases h), fun _ => rfl, fun k _ => ?_, fun k _ => ?_⟩
    · unfold spec_deArrivals.f
      rw [if_pos h]
    · unfold impl_arrivals.f
      rw [if_pos h]
  · obtain ⟨m, rfl⟩ := Int.eq_ofNat_of_zero_le (show 0 ≤ a by omega)
    have e0 : rd ((List.replicate m (-1)).set 0 0) 0 = 0 := by
      obtain ⟨q, rfl⟩ : ∃ q, m = q + 1 := ⟨m - 1, by omega⟩
      rfl
    obtain ⟨r, h1, h2, hs, hi⟩ := arr_l1 d (m : Int) ha0 ha1 l (by omega) l.length 0 ((List.replicate m (-1)).set 0 0) (by omega) (by simp) e0 (by simp)
    refine ⟨r, h1, h2, fun k hk => ?_, fun k hk => ?_⟩
    · unfold spec_deArrivals.f
      rw [if_neg h, if_pos (by omega), if_pos (by omega)]
      have := arr_l0 d (m : Int) l m (by omega) r (100 + 60 * l.length) (by omega) hs m 0 k (by omega) (by omega)
      simpa using this
    · unfold impl_arrivals.f slices_Repeat_int_int.f
      rw [if_neg h, if_pos ⟨rfl, by omega, by omega⟩]
      simp only [Option.bind_some]
      rw [if_pos (by simp; omega)]
      have := hi k (by omega)
      simpa [rd] using this
theorem askS (d a : Int) : spec_deAsked.f d a = some (decide (1 ≤ d ∧ d ≤ 10) && decide (1 ≤ a ∧ a ≤ 40)) := by
  unfold spec_deAsked.f spec_deDelay.f
  simp only [inS, Option.bind_some]
  by_cases h : 1 ≤ d ∧ d ≤ 10
  · rw [if_pos (decide_eq_true h), decide_eq_true h]; rfl
  · rw [if_neg (by simp [h])]; simp [h]
theorem askI (d a : Int) : impl_areDelayed.f d a = some (decide (1 ≤ d ∧ d ≤ 10) && decide (1 ≤ a ∧ a ≤ 40)) := by
  unfold impl_areDelayed.f impl_isDelay.f
  simp only [inI, Option.bind_some]
  by_cases h : 1 ≤ d ∧ d ≤ 10
  · rw [if_pos (decide_eq_true h), decide_eq_true h]; rfl
  · rw [if_neg (by simp [h])]; simp [h]
theorem good_l1 (l : List S67) (hn : l.length ≤ 1000) (x8 o : List Int) : ∀ (dd i k : Nat), i + dd = l.length → impl_arrivals.l1 k x8 l (l.length : Int) (i : Int) = some (o, true) → o = x8 ∧ ∀ c ∈ l.drop i, 0 ≤ rd x8 c.f0 ∧ rd x8 c.f0 ≤ c.f2
  | dd, i, 0, hi, h => by simp [impl_arrivals.l1] at h
  | 0, i, k + 1, hi, h => by
    simp only [impl_arrivals.l1] at h
    rw [if_neg (by omega)] at h
    rw [List.drop_eq_nil_of_le (by omega)]
    simp at h
    exact ⟨h.symm, by simp⟩
  | dd + 1, i, k + 1, hi, h => by
    have ha : i < l.length := by omega
    simp only [impl_arrivals.l1] at h
    rw [if_pos (by omega), if_pos (by omega), if_pos (by omega), rdSend1 ha, up64 ha (by omega)] at h
    by_cases e0 : 0 ≤ l[i].f0
    · by_cases e1 : l[i].f0 < (x8.length : Int)
      · rw [if_pos e0, if_pos e1] at h
        by_cases e2 : rd x8 l[i].f0 < 0
        · rw [if_pos e2] at h; simp at h
        · by_cases e3 : rd x8 l[i].f0 > l[i].f2
          · rw [if_neg e2, if_pos e3] at h; simp at h
          · rw [if_neg e2, if_neg e3] at h
            obtain ⟨h1, h2⟩ := good_l1 l hn x8 o dd (i + 1) k (by omega) h
            refine ⟨h1, fun c hc => ?_⟩
            rw [List.drop_eq_getElem_cons ha, List.mem_cons] at hc
            rcases hc with rfl | hc
            · omega
            · exact h2 c hc
      · rw [if_pos e0, if_neg e1] at h; simp at h
    · rw [if_neg e0] at h; simp at h
/-- Sends that are taken: all is in its bounds, nobody is told twice, and what is sent is known. -/
structure Good (d a : Int) (l : List S67) (o : List Int) : Prop where
  in_ : ∀ c ∈ l, (0 ≤ c.f0 ∧ c.f0 < a) ∧ (1 ≤ c.f1 ∧ c.f1 < a) ∧ rd o c.f1 = c.f2 + d ∧ 0 ≤ rd o c.f0 ∧ rd o c.f0 ≤ c.f2 ∧ c.f2 ≤ 60
  apart : l.Pairwise fun c e => c.f1 ≠ e.f1
  dist : l.Pairwise fun c e => ¬ (c.f2 = e.f2 ∧ c.f0 = e.f0)
theorem rd_set_eq {xs : List Int} {i : Int} {v : Int} (h0 : 0 ≤ i) (h1 : i < (xs.length : Int)) : rd (xs.set i.toNat v) i = v := by
  unfold rd
  have : i.toNat < xs.length := by omega
  simp [List.getD_eq_getElem?_getD, List.getElem?_set, this]
theorem rd_set_other {xs : List Int} {i j : Int} {v : Int} (h0 : 0 ≤ i) (hj : 0 ≤ j) (h : i ≠ j) : rd (xs.set i.toNat v) j = rd xs j := by
  have := rd_set_ne (xs := xs) (i := i.toNat) (j := j.toNat) (v := v) (by omega)
  rwa [Int.toNat_of_nonneg hj] at this
theorem good_l0 (d a : Int) (hd : 1 ≤ d ∧ d ≤ 10) (ha0 : 1 ≤ a) (ha1 : a ≤ 40) (l : List S67) (hn : l.length ≤ 40) (o : List Int) : ∀ (dd i k : Nat) (x8 : List Int), i + dd = l.length → (x8.length : Int) = a → (∀ c ∈ l.take i, (0 ≤ c.f0 ∧ c.f0 < a) ∧ (1 ≤ c.f1 ∧ c.f1 < a) ∧ rd x8 c.f1 = c.f2 + d ∧ 0 ≤ c.f2 ∧ c.f2 ≤ 60) → ((l.take i).Pairwise fun c e => c.f1 ≠ e.f1) → ((l.take i).Pairwise fun c e => ¬ (c.f2 = e.f2 ∧ c.f0 = e.f0)) → impl_arrivals.l0 k d a l x8 l (l.length : Int) (i : Int) = some (o, true) → Good d a l o
  | dd, i, 0, x8, hi, hx, hc, hp, hq, h => by simp [impl_arrivals.l0] at h
  | dd, i, 1, x8, hi, hx, hc, hp, hq, h => by
    simp [impl_arrivals.l0, impl_arrivals.l1, impl_arrivals.j1, inI, impl_isMinute.f] at h
  | 0, i, k + 2, x8, hi, hx, hc, hp, hq, h => by
    rw [List.take_of_length_le (by omega)] at hc hp hq
    rw [impl_arrivals.l0] at h
    rw [if_neg (by omega)] at h
    obtain ⟨rfl, h2⟩ := good_l1 l (by omega) x8 o l.length 0 (k + 1) (by omega) h
    exact ⟨fun c hm => ⟨(hc c hm).1, (hc c hm).2.1, (hc c hm).2.2.1, (h2 c hm).1, (h2 c hm).2, (hc c hm).2.2.2.2⟩, hp, hq⟩
  | dd + 1, i, k + 2, x8, hi, hx, hc, hp, hq, h => by
    have ha : i < l.length := by omega
    have wa : wrap64 (a - 1) = a - 1 := w64 (by omega) (by omega)
    rw [impl_arrivals.l0] at h
    rw [if_pos (by omega), if_pos (by omega), if_pos (by omega), rdSend1 ha, wa, inI, inI] at h
    simp only [impl_isMinute.f, inI, impl_arrivals.j1, if_true, Option.bind_some, Bool.false_eq_true, if_false, decide_eq_true_eq] at h
    by_cases p1 : 0 ≤ l[i].f0 ∧ l[i].f0 ≤ a - 1
    case neg => rw [if_neg p1] at h; simp at h
    by_cases p2 : 1 ≤ l[i].f1 ∧ l[i].f1 ≤ a - 1
    case neg => rw [if_pos p1, if_neg p2] at h; simp at h
    by_cases p3 : l[i].f0 = l[i].f1
    case pos => rw [if_pos p1, if_pos p2, if_pos p3] at h; simp at h
    by_cases p4 : 0 ≤ l[i].f2 ∧ l[i].f2 ≤ 60
    case neg => rw [if_pos p1, if_pos p2, if_neg p3, if_neg p4] at h; simp at h
    rw [if_pos p1, if_pos p2, if_neg p3, if_pos p4, if_pos (by omega), if_pos (by omega)] at h
    by_cases p5 : rd x8 l[i].f1 ≥ 0
    case pos => rw [if_pos p5] at h; simp at h
    rw [if_neg p5, if_pos (by omega), if_pos (by omega)] at h
    simp only [impl_arrivals_1.f, Option.bind_some, Int.toNat_natCast] at h
    split at h
    · simp at h
    · rename_i hany
      rw [if_pos (by omega), if_pos (by omega), up64 ha (by omega), w64 (x := l[i].f2 + d) (by omega) (by omega)] at h
      refine good_l0 d a hd ha0 ha1 l hn o dd (i + 1) k (x8.set l[i].f1.toNat (l[i].f2 + d)) (by omega) (by simpa using hx) (fun c hm => ?_) ?_ ?_ h
      · rw [List.take_succ_eq_append_getElem ha, List.mem_append, List.mem_singleton] at hm
        rcases hm with hm | rfl
        · obtain ⟨c1, c2, c3, c4, c5⟩ := hc c hm
          refine ⟨c1, c2, ?_, c4, c5⟩
          have hne : l[i].f1 ≠ c.f1 := fun e => by rw [e] at p5; omega
          rw [rd_set_other (by omega) (by omega) hne]
          exact c3
        · refine ⟨⟨p1.1, by omega⟩, ⟨p2.1, by omega⟩, ?_, p4.1, p4.2⟩
          exact rd_set_eq (by omega) (by omega)
      · rw [List.take_succ_eq_append_getElem ha, List.pairwise_append]
        refine ⟨hp, List.pairwise_singleton _ _, fun c hm e he => ?_⟩
        rw [List.mem_singleton] at he
        subst he
        obtain ⟨c1, c2, c3, c4, c5⟩ := hc c hm
        intro e
        rw [← e] at p5
        omega
      · rw [List.take_succ_eq_append_getElem ha, List.pairwise_append]
        refine ⟨hq, List.pairwise_singleton _ _, fun c hm e he => ?_⟩
        rw [List.mem_singleton] at he
        subst he
        rintro ⟨e2, e0⟩
        refine hany ?_
        rw [List.any_eq_true]
        exact ⟨c, hm, by unfold impl_arrivals_1.p; rw [e0, e2]; simp⟩
theorem arr_good (d a : Int) (hd : 1 ≤ d ∧ d ≤ 10) (ha0 : 1 ≤ a) (ha1 : a ≤ 40) (l : List S67) (o : List Int) (k : Nat) (h : impl_arrivals.f k d a l = some (o, true)) : Good d a l o ∧ l.length ≤ 40 := by
  unfold impl_arrivals.f slices_Repeat_int_int.f at h
  by_cases hl : (l.length : Int) > 40
  · rw [if_pos hl] at h; simp at h
  · rw [if_neg hl, if_pos ⟨rfl, by omega, by omega⟩] at h
    simp only [Option.bind_some] at h
    rw [if_pos (by simp; omega)] at h
    exact ⟨good_l0 d a hd ha0 ha1 l (by omega) o l.length 0 k _ (by omega) (by simp; omega) (by simp) (by simp) (by simp) h, by omega⟩
/-- Does one send come before another? -/
def ltS (c e : S67) : Bool := decide (c.f2 < e.f2 ∨ (c.f2 = e.f2 ∧ c.f0 < e.f0))
/-- Where a send is put. -/
def placeS (s : S67) (out : List S67) : Nat → Nat
  | 0 => 0
  | j + 1 => if ltS s (rd_T67 out (j : Int)) = true then placeS s out j else j + 1
theorem placeS_le (s : S67) (out : List S67) : ∀ j, placeS s out j ≤ j
  | 0 => Nat.le_refl _
  | j + 1 => by
    unfold placeS
    split
    · exact Nat.le_trans (placeS_le s out j) (Nat.le_succ _)
    · exact Nat.le_refl _
theorem placeS_above (s : S67) (out : List S67) : ∀ j, ∀ i, placeS s out j ≤ i → i < j → ltS s (rd_T67 out (i : Int)) = true
  | 0, i, _, h => by omega
  | j + 1, i, h1, h2 => by
    unfold placeS at h1
    split at h1
    · rename_i c
      by_cases e : i = j
      · subst e; exact c
      · exact placeS_above s out j i h1 (by omega)
    · omega
theorem placeS_below (s : S67) (out : List S67) : ∀ j, 0 < placeS s out j → ltS s (rd_T67 out ((placeS s out j - 1 : Nat) : Int)) = false
  | 0, h => by simp [placeS] at h
  | j + 1, h => by
    unfold placeS at h ⊢
    by_cases c : ltS s (rd_T67 out (j : Int)) = true
    · rw [if_pos c] at h ⊢
      exact placeS_below s out j h
    · rw [if_neg c, Nat.add_sub_cancel]
      simpa using c
/-- A send put into its place. -/
def insS (out : List S67) (s : S67) : List S67 := out.take (placeS s out out.length) ++ [s] ++ out.drop (placeS s out out.length)
theorem insS_len (out : List S67) (s : S67) : (insS out s).length = out.length + 1 := by
  have := placeS_le s out out.length
  unfold insS
  simp
  omega
theorem insS_perm (out : List S67) (s : S67) : (insS out s).Perm (out ++ [s]) := by
  unfold insS
  generalize placeS s out out.length = m
  have : out ++ [s] = (out.take m ++ out.drop m) ++ [s] := by rw [List.take_append_drop]
  rw [this, List.append_assoc, List.append_assoc]
  exact List.perm_append_comm.append_left _
theorem ordS_l0 (l : List S67) (hl : l.length ≤ 1000) : ∀ (d i : Nat) (out : List S67), i + d = l.length → out.length + d ≤ 1000 → ∀ k, 2000 * d + 10 ≤ k → spec_deOrdered.l0 k out l (l.length : Int) (i : Int) = some ((l.drop i).foldl insS out)
  | 0, i, out, hi, ho, k, hk => by
    obtain ⟨k, rfl⟩ : ∃ q, k = q + 1 := ⟨k - 1, by omega⟩
    simp only [spec_deOrdered.l0]
    rw [if_neg (by omega), List.drop_eq_nil_of_le (by omega)]
    rfl
  | d + 1, i, out, hi, ho, k, hk => by
    obtain ⟨k, rfl⟩ : ∃ q, k = q + 1 := ⟨k - 1, by omega⟩
    have ha : i < l.length := by omega
    simp only [spec_deOrdered.l0]
    rw [if_pos (by omega), if_pos (by omega), if_pos (by omega), rdSend1 ha, List.drop_eq_getElem_cons ha, List.foldl_cons]
    have fin : ∀ (m : Nat) (k : Nat), m ≤ out.length → 2000 * d + 10 ≤ k → insS out l[i] = out.take m ++ [l[i]] ++ out.drop m → ((some ([] : List S67)).bind fun y => if 0 ≤ (m : Int) then (if (m : Int) ≤ (out.length : Int) then ((some (out.take (m : Int).toNat)).bind fun y2 => (if y.length + y2.length < 5864062014805 then ((some (y ++ y2)).bind fun y3 => ((some [(⟨l[i].f0, l[i].f1, l[i].f2⟩ : S67)]).bind fun y4 => (if y3.length + y4.length < 5864062014805 then ((some (y3 ++ y4)).bind fun y5 => ((some (out.drop (m : Int).toNat)).bind fun y6 => (if y5.length + y6.length < 5864062014805 then spec_deOrdered.l0 k (y5 ++ y6) l (l.length : Int) (wrap64 ((i : Int) + 1)) else none))) else none))) else none)) else none) else none) = some ((l.drop (i + 1)).foldl insS (insS out l[i])) := by
      intro m k hm hk he
      simp only [Option.bind_some]
      rw [if_pos (by omega), if_pos (by omega), if_pos (by simp; omega), if_pos (by simp; omega), if_pos (by simp; omega), up64 ha (by omega), Int.toNat_natCast]
      have := ordS_l0 l hl d (i + 1) (insS out l[i]) (by omega) (by rw [insS_len]; omega) k hk
      rw [← this, he]
      simp
    have inner : ∀ (j : Nat) (k : Nat), j ≤ out.length → j + 2000 * d + 20 ≤ k → insS out l[i] = out.take (placeS l[i] out j) ++ [l[i]] ++ out.drop (placeS l[i] out j) → spec_deOrdered.l1 k out (j : Int) l (l.length : Int) (i : Int) l[i].f0 l[i].f1 l[i].f2 = some ((l.drop (i + 1)).foldl insS (insS out l[i])) := by
      intro j
      induction j with
      | zero =>
        intro k _ hk he
        obtain ⟨k, rfl⟩ : ∃ q, k = q + 1 := ⟨k - 1, by omega⟩
        rw [spec_deOrdered.l1, if_neg (by omega)]
        exact fin 0 k (by omega) (by omega) he
      | succ j ih =>
        intro k hj hk he
        obtain ⟨k, rfl⟩ : ∃ q, k = q + 1 := ⟨k - 1, by omega⟩
        have e1 : wrap64 (((j + 1 : Nat) : Int) - 1) = (j : Int) := by rw [w64 (by omega) (by omega)]; omega
        rw [spec_deOrdered.l1, if_pos (by omega), e1, if_pos (by omega), if_pos (by omega)]
        by_cases c : ltS l[i] (rd_T67 out (j : Int)) = true
        · have he' : insS out l[i] = out.take (placeS l[i] out j) ++ [l[i]] ++ out.drop (placeS l[i] out j) := by
            rw [he]; unfold placeS; rw [if_pos c]; cases j <;> rfl
          have ih' := ih k (by omega) (by omega) he'
          unfold ltS at c
          rw [decide_eq_true_eq] at c
          by_cases c1 : l[i].f2 < (rd_T67 out (j : Int)).f2
          · rw [if_pos c1]; exact ih'
          · rw [if_neg c1, if_pos (by omega), if_pos (by omega)]; exact ih'
        · have he' : insS out l[i] = out.take (j + 1) ++ [l[i]] ++ out.drop (j + 1) := by
            rw [he]; unfold placeS; rw [if_neg c]
          have f := fin (j + 1) k (by omega) (by omega) he'
          unfold ltS at c
          rw [decide_eq_true_eq] at c
          rw [if_neg (by omega)]
          by_cases c2 : l[i].f2 = (rd_T67 out (j : Int)).f2
          · rw [if_pos c2, if_neg (by omega)]; exact f
          · rw [if_neg c2]; exact f
    exact inner out.length k (Nat.le_refl _) (by omega) rfl
theorem ordS_f (l : List S67) (hl : l.length ≤ 1000) {k : Nat} (hk : 2000 * l.length + 10 ≤ k) : spec_deOrdered.f k l = some (l.foldl insS []) := by
  have := ordS_l0 l hl l.length 0 [] (by omega) (by simp; omega) k hk
  simpa [spec_deOrdered.f] using this
theorem leS_iff (c e : S67) : impl_Send_98.le c e = true ↔ (c.f2 < e.f2 ∨ (c.f2 = e.f2 ∧ c.f0 ≤ e.f0)) := by
  unfold impl_Send_98.le
  simp
theorem ltS_iff (c e : S67) : ltS c e = true ↔ (c.f2 < e.f2 ∨ (c.f2 = e.f2 ∧ c.f0 < e.f0)) := by
  unfold ltS
  simp
theorem foldS_perm : ∀ (l out : List S67), (l.foldl insS out).Perm (out ++ l)
  | [], out => by simp
  | s :: l, out => by
    rw [List.foldl_cons]
    refine (foldS_perm l (insS out s)).trans ?_
    have := (insS_perm out s).append_right l
    rwa [List.append_assoc, List.singleton_append] at this
theorem insS_sorted (out : List S67) (s : S67) (h : out.Pairwise fun c e => impl_Send_98.le c e = true) : (insS out s).Pairwise fun c e => impl_Send_98.le c e = true := by
  have h1 := placeS_above s out out.length
  have h2 := placeS_below s out out.length
  have h3 := placeS_le s out out.length
  unfold insS
  generalize placeS s out out.length = m at h1 h2 h3 ⊢
  have ho := h
  rw [List.pairwise_iff_getElem] at ho
  have below : ∀ i (hi : i < out.length), i < m → impl_Send_98.le out[i] s = true := fun i hi him => by
    have h4 := h2 (by omega)
    rw [rdSend1 (by omega)] at h4
    have h5 : ¬ (s.f2 < (out[m - 1]'(by omega)).f2 ∨ (s.f2 = (out[m - 1]'(by omega)).f2 ∧ s.f0 < (out[m - 1]'(by omega)).f0)) := fun e => by
      rw [← ltS_iff, h4] at e
      cases e
    have h6 : impl_Send_98.le (out[m - 1]'(by omega)) s = true := by rw [leS_iff]; omega
    by_cases e : i = m - 1
    · subst e; exact h6
    · have h7 := ho i (m - 1) hi (by omega) (by omega)
      rw [leS_iff] at *
      omega
  have above : ∀ i (hi : i < out.length), m ≤ i → impl_Send_98.le s out[i] = true := fun i hi hmi => by
    have := h1 i hmi hi
    rw [rdSend1 hi, ltS_iff] at this
    rw [leS_iff]
    omega
  rw [List.append_assoc, List.pairwise_append]
  refine ⟨h.sublist (List.take_sublist _ _), ?_, ?_⟩
  · rw [List.singleton_append, List.pairwise_cons]
    refine ⟨fun e he => ?_, h.sublist (List.drop_sublist _ _)⟩
    obtain ⟨i, hi, rfl⟩ := List.mem_iff_getElem.1 he
    rw [List.getElem_drop]
    exact above _ (by rw [List.length_drop] at hi; omega) (by omega)
  · intro c hc e he
    obtain ⟨i, hi, rfl⟩ := List.mem_iff_getElem.1 hc
    rw [List.length_take] at hi
    rw [List.getElem_take]
    rw [List.singleton_append, List.mem_cons] at he
    rcases he with rfl | he
    · exact below i (by omega) (by omega)
    · obtain ⟨j, hj, rfl⟩ := List.mem_iff_getElem.1 he
      rw [List.getElem_drop]
      rw [List.length_drop] at hj
      exact ho _ _ (by omega) (by omega) (by omega)
theorem foldS_sorted : ∀ (l out : List S67), (out.Pairwise fun c e => impl_Send_98.le c e = true) → ((l.foldl insS out).Pairwise fun c e => impl_Send_98.le c e = true)
  | [], out, h => h
  | s :: l, out, h => foldS_sorted l (insS out s) (insS_sorted out s h)
/-- The two orders of sends of which no two have the same sender and minute. -/
theorem orders_eq (l : List S67) (h : l.Pairwise fun c e => ¬ (c.f2 = e.f2 ∧ c.f0 = e.f0)) : l.mergeSort impl_Send_98.le = l.foldl insS [] := by
  have same : ∀ c e : S67, c ∈ l → e ∈ l → c.f2 = e.f2 → c.f0 = e.f0 → c = e := fun c e hc he h2 h0 => by
    rw [List.pairwise_iff_getElem] at h
    obtain ⟨i, hi, rfl⟩ := List.mem_iff_getElem.1 hc
    obtain ⟨j, hj, rfl⟩ := List.mem_iff_getElem.1 he
    rcases Nat.lt_trichotomy i j with q | q | q
    · exact absurd ⟨h2, h0⟩ (h i j hi hj q)
    · subst q; rfl
    · exact absurd ⟨h2.symm, h0.symm⟩ (h j i hj hi q)
  have pe : (l.foldl insS []).Perm l := by simpa using foldS_perm l []
  refine List.Perm.eq_of_pairwise (le := fun c e => impl_Send_98.le c e = true) (fun c e hc he h1 h2 => ?_) (List.pairwise_mergeSort (fun a b c h1 h2 => by rw [leS_iff] at *; omega) (fun a b => by rw [Bool.or_eq_true, leS_iff, leS_iff]; omega) _) (foldS_sorted l [] List.Pairwise.nil) ((List.mergeSort_perm _ _).trans pe.symm)
  rw [leS_iff] at h1 h2
  exact same c e ((List.mergeSort_perm _ _).subset hc) (pe.subset he) (by omega) (by omega)
/-- The two ask alike whether all is right, and order alike. -/
theorem sent_both (d a : Int) (l : List S67) (hl : l.length ≤ 1048576) (p : Int) : ∃ b : Bool, (∀ k, 200000 ≤ k → spec_dePerson.f k d a l p = some (b && decide (0 ≤ p ∧ p ≤ a - 1))) ∧ (∀ k, 200000 ≤ k → impl_areSent.f k d a l = some b) ∧ (b = true → 1 ≤ a ∧ a ≤ 40 ∧ l.length ≤ 40 ∧ (∀ k, 200000 ≤ k → spec_deOrdered.f k l = some (l.foldl insS [])) ∧ impl_inOrder.f l = some (l.foldl insS [])) := by
  by_cases h : (1 ≤ d ∧ d ≤ 10) ∧ (1 ≤ a ∧ a ≤ 40)
  · obtain ⟨⟨o, b⟩, h1, h0, hs, hi⟩ := arr_both d a h.2.1 h.2.2 l hl
    have wa : wrap64 (a - 1) = a - 1 := w64 (by omega) (by omega)
    refine ⟨b, fun k hk => ?_, fun k hk => ?_, fun hb => ?_⟩
    · unfold spec_dePerson.f
      by_cases hp : 0 ≤ p ∧ p ≤ a - 1
      · simp [askS, inS, wa, h, hp, hs k (by omega)]
      · simp [askS, inS, wa, h, hp]
    · unfold impl_areSent.f impl_AreSends.f
      simp [askI, h, hi k (by omega)]
    · subst hb
      obtain ⟨g, hn⟩ := arr_good d a h.1 h.2.1 h.2.2 l o 5000 (hi 5000 (by omega))
      refine ⟨h.2.1, h.2.2, hn, fun k hk => ordS_f l (by omega) (by omega), ?_⟩
      unfold impl_inOrder.f impl_Send_97.f impl_Send_98.f
      rw [if_pos (by omega)]
      simp only [Option.bind_some]
      rw [if_pos ⟨by omega, g.dist⟩, orders_eq l g.dist]
      rfl
  · refine ⟨false, fun k hk => ?_, fun k hk => ?_, fun hb => by cases hb⟩
    · unfold spec_dePerson.f
      by_cases h1 : 1 ≤ d ∧ d ≤ 10
      · have h2 : ¬ (1 ≤ a ∧ a ≤ 40) := fun h2 => h ⟨h1, h2⟩
        simp [askS, h1, h2]
      · simp [askS, h1]
    · unfold impl_areSent.f impl_AreSends.f
      by_cases h1 : 1 ≤ d ∧ d ≤ 10
      · have h2 : ¬ (1 ≤ a ∧ a ≤ 40) := fun h2 => h ⟨h1, h2⟩
        simp [askI, h1, h2]
      · simp [askI, h1]
theorem specBy_l0 (p : Int) (xs : List S67) (hn : xs.length ≤ 40) : ∀ (d i k : Nat) (out : List Int), i + d = xs.length → out.length ≤ i → d < k → spec_SentBy.l0 k p out xs (xs.length : Int) (i : Int) = some (out ++ ((xs.drop i).filter (fun s => decide (s.f0 = p))).map (fun s => s.f1), true)
  | 0, i, k, out, hi, ho, hk => by
    obtain ⟨k, rfl⟩ : ∃ q, k = q + 1 := ⟨k - 1, by omega⟩
    simp only [spec_SentBy.l0]
    rw [if_neg (by omega), List.drop_eq_nil_of_le (by omega)]
    simp
  | d + 1, i, k, out, hi, ho, hk => by
    obtain ⟨k, rfl⟩ : ∃ q, k = q + 1 := ⟨k - 1, by omega⟩
    have ha : i < xs.length := by omega
    simp only [spec_SentBy.l0]
    rw [if_pos (by omega), if_pos (by omega), if_pos (by omega), rdSend1 ha, up64 ha (by omega), List.drop_eq_getElem_cons ha]
    by_cases e : xs[i].f0 = p
    · rw [if_pos e, if_pos (by omega), specBy_l0 p xs hn d (i + 1) k _ (by omega) (by rw [List.length_append, List.length_singleton]; omega) (by omega), List.filter_cons_of_pos (by simpa using e)]
      simp
    · rw [if_neg e, specBy_l0 p xs hn d (i + 1) k _ (by omega) (by omega) (by omega), List.filter_cons_of_neg (by simpa using e)]
theorem implBy_l0 (p : Int) (xs : List S67) (hn : xs.length ≤ 40) : ∀ (d i k : Nat) (out : List Int), i + d = xs.length → out.length ≤ i → d < k → impl_SentBy.l0 k p out xs (xs.length : Int) (i : Int) = some (out ++ ((xs.drop i).filter (fun s => decide (s.f0 = p))).map (fun s => s.f1), true)
  | 0, i, k, out, hi, ho, hk => by
    obtain ⟨k, rfl⟩ : ∃ q, k = q + 1 := ⟨k - 1, by omega⟩
    simp only [impl_SentBy.l0]
    rw [if_neg (by omega), List.drop_eq_nil_of_le (by omega)]
    simp
  | d + 1, i, k, out, hi, ho, hk => by
    obtain ⟨k, rfl⟩ : ∃ q, k = q + 1 := ⟨k - 1, by omega⟩
    have ha : i < xs.length := by omega
    simp only [impl_SentBy.l0]
    rw [if_pos (by omega), if_pos (by omega), if_pos (by omega), rdSend1 ha, up64 ha (by omega), List.drop_eq_getElem_cons ha]
    by_cases e : xs[i].f0 = p
    · rw [if_pos e, if_pos (by omega), implBy_l0 p xs hn d (i + 1) k _ (by omega) (by rw [List.length_append, List.length_singleton]; omega) (by omega), List.filter_cons_of_pos (by simpa using e)]
      simp
    · rw [if_neg e, implBy_l0 p xs hn d (i + 1) k _ (by omega) (by omega) (by omega), List.filter_cons_of_neg (by simpa using e)]
theorem SentBy_both (d a p : Int) (l : List S67) (hl : l.length ≤ 1048576) : ∃ r : List Int × Bool, r.1.length ≤ 40 ∧ (∀ k, 1200000 ≤ k → spec_SentBy.f k d a l p = some r) ∧ (∀ k, 1200000 ≤ k → impl_SentBy.f k d a l p = some r) := by
  obtain ⟨b, s1, i1, g⟩ := sent_both d a l hl p
  cases b with
  | false =>
    refine ⟨([], false), by simp, fun k hk => ?_, fun k hk => ?_⟩
    · unfold spec_SentBy.f
      simp [s1 k (by omega)]
    · obtain ⟨k, rfl⟩ : ∃ q, k = q + 1 := ⟨k - 1, by omega⟩
      unfold impl_SentBy.f
      simp [i1 (k + 1) (by omega), impl_SentBy.j0]
  | true =>
    obtain ⟨a1, a2, ln, s2, i2⟩ := g rfl
    have hlen : (l.foldl insS []).length = l.length := by simpa using (foldS_perm l []).length_eq
    have wa : wrap64 (a - 1) = a - 1 := w64 (by omega) (by omega)
    by_cases hp : 0 ≤ p ∧ p ≤ a - 1
    · have e : decide (0 ≤ p ∧ p ≤ a - 1) = true := decide_eq_true hp
      have hw : ∀ q, impl_within.f p 0 q = some (decide (p ≤ q)) := fun q => by unfold impl_within.f; rw [if_pos hp.1]
      refine ⟨((((l.foldl insS []).drop 0).filter (fun s => decide (s.f0 = p))).map (fun s => s.f1), true), ?_, fun k hk => ?_, fun k hk => ?_⟩
      · have := List.length_filter_le (fun s : S67 => decide (s.f0 = p)) ((l.foldl insS []).drop 0)
        rw [List.length_drop] at this
        dsimp only
        rw [List.length_map]
        omega
      · unfold spec_SentBy.f
        rw [s1 k (by omega), e]
        simp only [Option.bind_some, Bool.and_true, if_true]
        rw [s2 k (by omega)]
        simp only [Option.bind_some]
        have := specBy_l0 p (l.foldl insS []) (by omega) (l.foldl insS []).length 0 k [] (by omega) (by simp) (by omega)
        simpa using this
      · obtain ⟨k, rfl⟩ : ∃ q, k = q + 1 := ⟨k - 1, by omega⟩
        unfold impl_SentBy.f
        rw [i1 (k + 1) (by omega)]
        simp only [Option.bind_some, if_true]
        rw [hw, wa, decide_eq_true hp.2]
        simp only [Option.bind_some, Bool.not_true, impl_SentBy.j0, Bool.false_eq_true, if_false]
        rw [i2]
        simp only [Option.bind_some]
        have := implBy_l0 p (l.foldl insS []) (by omega) (l.foldl insS []).length 0 k [] (by omega) (by simp) (by omega)
        simpa using this
    · have e : decide (0 ≤ p ∧ p ≤ a - 1) = false := decide_eq_false hp
      have hw : impl_within.f p 0 (a - 1) = some false := by
        unfold impl_within.f
        by_cases h0 : 0 ≤ p
        · rw [if_pos h0, decide_eq_false (by omega)]
        · rw [if_neg h0]
      refine ⟨([], false), by simp, fun k hk => ?_, fun k hk => ?_⟩
      · unfold spec_SentBy.f
        rw [s1 k (by omega), e]
        simp
      · obtain ⟨k, rfl⟩ : ∃ q, k = q + 1 := ⟨k - 1, by omega⟩
        unfold impl_SentBy.f
        rw [i1 (k + 1) (by omega)]
        simp only [Option.bind_some, if_true]
        rw [wa, hw]
        simp [impl_SentBy.j0]
theorem FnExactSentBy : ∀ (a0 : Int) (a1 : Int) (l2 : List (S69)) (a3 : Int), (Lit.int .i64 a0).wf = true → (Lit.int .i64 a1).wf = true → l2.length ≤ maxLen → (∀ x ∈ l2, (fun x => (Lit.int .i64 x.f0).wf = true ∧ (Lit.int .i64 x.f1).wf = true ∧ (fun n => (Lit.int .i64 n).wf = true) x.f2) x) → (Lit.int .i64 a3).wf = true → ∃ k, laws_FnExactSentBy.f k a0 a1 l2 a3 = some true := by
  intro d a l p _ _ hm _ _
  refine ⟨2000000, ?_⟩
  unfold laws_FnExactSentBy.f
  rw [szSendS_f l (by unfold maxLen at hm; omega)]
  simp only [Option.bind_some]
  by_cases h : l.length ≤ 1048576
  · obtain ⟨⟨o, b⟩, ho, hs, hi⟩ := SentBy_both d a p (l.map cvSend) (by simpa using h)
    dsimp only at ho
    have t1 : ∀ k, 1200000 ≤ k → laws_toSendS.f k l = some (l.map cvSend) := fun k hk => toSendS_f l h (by omega)
    have q1 : ∀ k, 1200000 ≤ k → laws_eqSendS.f k (l.map cvSend) (l.map cvSend) = some true := fun k hk => eqSendS_f _ (by simp; omega) (by simp; omega)
    have m1 : ∀ k, 1200000 ≤ k → laws_markSendS.f k (l.map cvSend) 1 = some (1 + 3 * ((l.map cvSend).length : Int), msS (l.map cvSend).length 0 (l.map cvSend) 1) := fun k hk => markSendS_f _ (by simp; omega) (by simp; omega)
    have q2 : ∀ k, 1200000 ≤ k → laws_eqIntS.f k o o = some true := fun k hk => by rw [eqIntS_f _ _ (by omega) (by omega)]; simp
    have m2 : ∀ k, 1200000 ≤ k → laws_markIntS.f k o 1 = some (1 + (o.length : Int), mk 1 o.length) := fun k hk => markIntS_f _ _ (by omega) (by omega) (by omega) (by omega)
    have d2 : ∀ k, 1200000 ≤ k → laws_heldIntS.f k (mk 1 o.length) 1 = some (1 + (o.length : Int)) := fun k hk => heldIntS_f _ _ (by omega) (by omega) (by omega) (by omega)
    have n1 : ¬ (1 + 3 * ((l.map cvSend).length : Int) < 0) := by omega
    have n2 : ¬ (1 + (o.length : Int) < 0) := by omega
    rw [if_pos h, if_neg (by omega)]
    simp (disch := omega) only [t1, hs, hi, q1, q2, Option.bind_some, if_true, bne_self_eq_false]
    rw [laws_FnExactSentBy.j0.eq_def]
    simp (disch := omega) only [t1, hs, hi, q1, q2, m1, m2, d2, n1, n2, Option.bind_some, if_true, if_false, bne_self_eq_false, Bool.false_eq_true]
    rw [laws_FnExactSentBy.j1.eq_def]
    simp (disch := omega) only [t1, hs, hi, q1, q2, m1, m2, d2, n1, n2, Option.bind_some, if_true, if_false, bne_self_eq_false, Bool.false_eq_true]
    rw [laws_FnExactSentBy.j2.eq_def]
    simp (disch := omega) only [d2, n2, Option.bind_some, if_true, if_false, Bool.false_eq_true]
  · rw [if_neg h]
    simp

end Go.Proofs.Ytelhcooeafhgoaa.Pure
