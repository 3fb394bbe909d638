/- For every text the program's ParseSends and the reference's agree, and the sends share no memory; no conditions. -/
import Derived.Test.YtbghdbpaihkcjabDoorPFnExactParseSendsx7
import Derived.Lib.FieldsP
import Derived.Laws.RangeString
import Derived.Lib.SplitLaws
set_option linter.unusedSimpArgs false
set_option linter.unusedVariables false
namespace Go.Proofs.YtbghdbpaihkcjabDoor.Pure
open Go.RowKit Go.Proofs.YtbghdbpaihkcjabDoor.PFnExactParseSends Go.Proofs.YtbghdbpaihkcjabDoorW.PrintWords Go.Proofs.YtbghdbpaihkcjabDoorW.PrintLast

theorem w64 {x : Int} (h0 : -9223372036854775808 ≤ x) (h1 : x ≤ 9223372036854775807) : wrap64 x = x := by unfold wrap64; omega
theorem up64 {i n : Nat} (h : i < n) (hn : n ≤ 4611686018427387904) : wrap64 ((i : Int) + 1) = ((i + 1 : Nat) : Int) := by rw [w64 (by omega) (by omega)]; omega
theorem rd_lt {xs : List Int} {i : Nat} (h : i < xs.length) : rd xs (i : Int) = xs[i] := by unfold rd; simp [List.getD_eq_getElem?_getD, h]
def ba (L : List UInt8) : ByteArray := ⟨L.toArray⟩
theorem ba_app (L M : List UInt8) : ba L ++ ba M = ba (L ++ M) := by
  apply ByteArray.ext
  apply Array.toList_inj.1
  simp [ba, ByteArray.data_append]
theorem ba_size (L : List UInt8) : (ba L).size = L.length := by simp [ba, ByteArray.size]
theorem ba_list (L : List UInt8) : (ba L).data.toList = L := by simp [ba]
/-- A digit. -/
def dg (x : Int) : List UInt8 := [UInt8.ofNat (48 + x.toNat)]
/-- Texts, each behind a sign. -/
def tl (s : UInt8) (xs : List (List UInt8)) : List UInt8 := (xs.map (fun y => s :: y)).flatten
/-- Texts with a sign between them. -/
def jn (s : UInt8) : List (List UInt8) → List UInt8
  | [] => []
  | x :: r => x ++ tl s r
theorem join_jn (s : UInt8) : ∀ xs : List (List UInt8), Lib.join xs [s] = jn s xs
  | [] => rfl
  | [x] => by simp [Lib.join, jn, tl, List.intercalate, List.intersperse]
  | x :: y :: r => by
    have ih := join_jn s (y :: r)
    have e : Lib.join (x :: y :: r) [s] = x ++ ([s] ++ Lib.join (y :: r) [s]) := by
      simp [Lib.join, List.intercalate, List.intersperse]
    rw [e, ih]
    simp [jn, tl]
theorem tl_len (s : UInt8) (B : Nat) : ∀ xs : List (List UInt8), (∀ y ∈ xs, y.length ≤ B) → (tl s xs).length ≤ (B + 1) * xs.length
  | [], _ => by simp [tl]
  | x :: r, h => by
    have h1 := h x (by simp)
    have h2 := tl_len s B r (fun y hy => h y (by simp [hy]))
    have e : (tl s (x :: r)).length = 1 + x.length + (tl s r).length := by simp [tl]; omega
    rw [e, List.length_cons, Nat.mul_add]
    omega
theorem jn_len (s : UInt8) (B : Nat) (xs : List (List UInt8)) (h : ∀ y ∈ xs, y.length ≤ B) : (jn s xs).length ≤ (B + 1) * xs.length := by
  cases xs with
  | nil => simp [jn]
  | cons x r =>
    have h1 := h x (by simp)
    have h2 := tl_len s B r (fun y hy => h y (by simp [hy]))
    simp only [jn, List.length_append, List.length_cons, Nat.mul_add]
    omega
theorem dec_small (n : Nat) (h : n < 10) : Lib.decDigits n = [UInt8.ofNat (48 + n)] := by
  rw [Lib.decDigits, dif_pos h]
theorem itoa_f (x : Int) (h0 : 0 ≤ x) (h1 : x ≤ 9) : strconv_Itoa.f x = some (ba (dg x)) := by
  unfold strconv_Itoa.f
  rw [if_pos (by omega), dec_small _ (by omega)]
  rfl
theorem join_f (xs : List (List UInt8)) (s : UInt8) (hn : xs.length ≤ 1000) (hl : ∀ y ∈ xs, y.length ≤ 1000) : strings_Join.f (xs.map ba) (ba [s]) = some (ba (jn s xs), xs.map ba) := by
  have e : strings_Join.p_join (xs.map ba) (ba [s]) = ba (jn s xs) := by
    unfold strings_Join.p_join
    rw [ba_list, List.map_map, show ((fun x : ByteArray => x.data.toList) ∘ ba) = id by funext L; exact ba_list L, List.map_id, join_jn]
    rfl
  have hj := jn_len s 1000 xs hl
  have hm : 1001 * xs.length ≤ 1001 * 1000 := Nat.mul_le_mul_left _ hn
  unfold strings_Join.f
  rw [e, if_pos ⟨by rw [List.length_map]; omega, by rw [ba_size]; omega⟩]
theorem rdSend1 {xs : List S51} {i : Nat} (h : i < xs.length) : rd_T51 xs (i : Int) = xs[i] := by unfold rd_T51; simp [List.getD_eq_getElem?_getD, h]
theorem dec_lt10 (n : Nat) (h : n < 10) : Lib.decDigits n = [UInt8.ofNat (48 + n)] := by rw [Lib.decDigits, dif_pos h]
theorem dec_lt100 (n : Nat) (h0 : 10 ≤ n) (h : n < 100) : Lib.decDigits n = [UInt8.ofNat (48 + n / 10), UInt8.ofNat (48 + n % 10)] := by
  rw [Lib.decDigits, dif_neg (by omega), dec_lt10 _ (by omega)]
  rfl
theorem dec_len (n : Nat) (h : n < 100) : (Lib.decDigits n).length ≤ 2 := by
  by_cases h0 : n < 10
  · rw [dec_lt10 n h0]; simp
  · rw [dec_lt100 n (by omega) h]; simp
theorem itoa2_f (x : Int) (h0 : 0 ≤ x) (h1 : x < 100) : strconv_Itoa.f x = some (ba (Lib.decDigits x.toNat)) := by
  unfold strconv_Itoa.f
  rw [if_pos (by omega)]
  rfl
/-- The text of a send. -/
def sd (c : S51) : List UInt8 := Lib.decDigits c.f0.toNat ++ 62 :: (Lib.decDigits c.f1.toNat ++ 64 :: Lib.decDigits c.f2.toNat)
/-- Can its numbers be told? -/
def tld (c : S51) : Prop := (0 ≤ c.f0 ∧ c.f0 ≤ 60) ∧ (0 ≤ c.f1 ∧ c.f1 ≤ 60) ∧ (0 ≤ c.f2 ∧ c.f2 ≤ 60)
theorem sd_len (c : S51) (h : tld c) : (sd c).length ≤ 8 := by
  obtain ⟨h1, h2, h3⟩ := h
  have l1 := dec_len c.f0.toNat (by omega)
  have l2 := dec_len c.f1.toNat (by omega)
  have l3 := dec_len c.f2.toNat (by omega)
  simp only [sd, List.length_append, List.length_cons]
  omega
theorem p_tld (c : S51) : impl_areTold_1.p c = false ↔ tld c := by
  unfold impl_areTold_1.p impl_areWithin_1.in_ tld
  simp only [List.any_cons, List.any_nil, Bool.or_false, Bool.or_eq_false_iff, Bool.not_eq_false', Bool.and_eq_true, decide_eq_true_eq]
theorem sum_sd (c : S51) : (ba (Lib.decDigits c.f0.toNat) ++ (⟨#[62]⟩ : ByteArray)) ++ ba (Lib.decDigits c.f1.toNat) ++ (⟨#[64]⟩ : ByteArray) ++ ba (Lib.decDigits c.f2.toNat) = ba (sd c) := by
  rw [show (⟨#[62]⟩ : ByteArray) = ba [62] from rfl, show (⟨#[64]⟩ : ByteArray) = ba [64] from rfl, ba_app, ba_app, ba_app, ba_app]
  congr 1
  simp [sd]
theorem sends_l0 (l : List S51) (hn : l.length ≤ 40) (hl : ∀ c ∈ l, tld c) : ∀ (d i k : Nat), i + d = l.length → d + 5 < k → impl_sendsText.l0 k (((l.map sd).take i).map ba) l (l.length : Int) (i : Int) = some (ba (jn 59 (l.map sd)))
  | 0, i, k, hi, hk => by
    obtain ⟨k, rfl⟩ : ∃ q, k = q + 1 := ⟨k - 1, by omega⟩
    simp only [impl_sendsText.l0]
    rw [if_neg (by omega), List.take_of_length_le (by simp; omega)]
    have h := join_f (l.map sd) 59 (by simp; omega) (fun y hy => by
      obtain ⟨c, hc, rfl⟩ := List.mem_map.1 hy
      have := sd_len c (hl c hc)
      omega)
    rw [show (⟨#[59]⟩ : ByteArray) = ba [59] from rfl, h]
    rfl
  | d + 1, i, k, hi, hk => by
    obtain ⟨k, rfl⟩ : ∃ q, k = q + 1 := ⟨k - 1, by omega⟩
    have ha : i < l.length := by omega
    obtain ⟨h1, h2, h3⟩ := hl _ (List.getElem_mem ha)
    have l1 := dec_len l[i].f0.toNat (by omega)
    have l2 := dec_len l[i].f1.toNat (by omega)
    have l3 := dec_len l[i].f2.toNat (by omega)
    have ih := sends_l0 l hn hl d (i + 1) k (by omega) (by omega)
    have ha' : i < (l.map sd).length := by rw [List.length_map]; exact ha
    rw [List.take_succ_eq_append_getElem ha', List.map_append, List.getElem_map] at ih
    simp only [impl_sendsText.l0]
    rw [if_pos (by omega), if_pos (by omega), if_pos (by omega), rdSend1 ha, itoa2_f _ h1.1 (by omega), Option.bind_some, if_pos (by rw [ba_size]; omega), itoa2_f _ h2.1 (by omega), Option.bind_some, if_pos (by rw [ByteArray.size_append, ba_size, ba_size]; show _ + 1 + _ ≤ _; omega), if_pos (by rw [ByteArray.size_append, ByteArray.size_append, ba_size, ba_size]; show _ + 1 + _ + 1 ≤ _; omega), itoa2_f _ h3.1 (by omega), Option.bind_some, if_pos (by rw [ByteArray.size_append, ByteArray.size_append, ByteArray.size_append, ba_size, ba_size, ba_size]; show _ + 1 + _ + 1 + _ ≤ _; omega), if_pos (by simp; omega), up64 ha (by omega), sum_sd]
    exact ih
theorem all3_l0 (x : List Int) (hx : x.length ≤ 100) : ∀ (d i k : Nat), i + d = x.length → d < k → spec_l1All.l0 k 0 60 x (x.length : Int) (i : Int) = some ((x.drop i).all fun y => decide (0 ≤ y) && decide (y ≤ 60))
  | 0, i, k, hi, hk => by
    obtain ⟨k, rfl⟩ : ∃ q, k = q + 1 := ⟨k - 1, by omega⟩
    simp only [spec_l1All.l0]
    rw [if_neg (by omega), List.drop_eq_nil_of_le (by omega)]
    rfl
  | d + 1, i, k, hi, hk => by
    obtain ⟨k, rfl⟩ : ∃ q, k = q + 1 := ⟨k - 1, by omega⟩
    have ha : i < x.length := by omega
    have ih := all3_l0 x hx d (i + 1) k (by omega) (by omega)
    have ei : spec_l1In.f x[i] 0 60 = some (decide (0 ≤ x[i]) && decide (x[i] ≤ 60)) := by
      unfold spec_l1In.f
      by_cases h : x[i] ≥ 0
      · rw [if_pos h]; simp [show 0 ≤ x[i] from h]
      · rw [if_neg h]; simp [show ¬ 0 ≤ x[i] from h]
    simp only [spec_l1All.l0]
    rw [if_pos (by omega), if_pos (by omega), if_pos (by omega), rd_lt ha, ei, Option.bind_some, up64 ha (by omega), ih, List.drop_eq_getElem_cons ha, List.all_cons]
    cases (decide (0 ≤ x[i]) && decide (x[i] ≤ 60)) with
    | true => rw [if_pos rfl, Bool.true_and]
    | false => rw [if_neg (by decide), Bool.false_and]
theorem some_l0 (l : List S51) (hn : l.length ≤ 1000) : ∀ (d i k : Nat), i + d = l.length → d + 10 < k → spec_deSome.l0 k l (l.length : Int) (i : Int) = some ((l.drop i).all fun c => !impl_areTold_1.p c)
  | 0, i, k, hi, hk => by
    obtain ⟨k, rfl⟩ : ∃ q, k = q + 1 := ⟨k - 1, by omega⟩
    simp only [spec_deSome.l0]
    rw [if_neg (by omega), List.drop_eq_nil_of_le (by omega)]
    rfl
  | d + 1, i, k, hi, hk => by
    obtain ⟨k, rfl⟩ : ∃ q, k = q + 1 := ⟨k - 1, by omega⟩
    have ha : i < l.length := by omega
    have ih := some_l0 l hn d (i + 1) k (by omega) (by omega)
    have e3 := all3_l0 [l[i].f0, l[i].f1, l[i].f2] (by simp) 3 0 k (by simp) (by omega)
    have ep : ([l[i].f0, l[i].f1, l[i].f2].all fun y => decide (0 ≤ y) && decide (y ≤ 60)) = !impl_areTold_1.p l[i] := by
      unfold impl_areTold_1.p impl_areWithin_1.in_
      simp
    rw [List.drop_zero, ep] at e3
    simp only [spec_deSome.l0, spec_l1All.f]
    rw [if_pos (by omega), if_pos (by omega), if_pos (by omega), rdSend1 ha]
    rw [show ((0 : Nat) : Int) = 0 from rfl] at e3
    rw [e3, Option.bind_some, up64 ha (by omega), ih, List.drop_eq_getElem_cons ha, List.all_cons]
    cases (!impl_areTold_1.p l[i]) with
    | true => rw [if_pos rfl, Bool.true_and]
    | false => rw [if_neg (by decide), Bool.false_and]
theorem not_anyL {α : Type} (p : α → Bool) (l : List α) : (!l.any p) = l.all fun c => !p c := by
  induction l with
  | nil => rfl
  | cons c t ih => rw [List.any_cons, List.all_cons, Bool.not_or, ih]
theorem ba_ext {a b : ByteArray} (h : a.data.toList = b.data.toList) : a = b := ByteArray.ext (Array.toList_inj.1 h)
theorem ba_of (s : ByteArray) : ba s.data.toList = s := ba_ext (by simp [ba])
theorem ba_get (L : List UInt8) (i : Nat) (hi : i < (ba L).size) (hj : i < L.length) : (ba L)[i]'hi = L[i]'hj := by
  simp [ba, ByteArray.getElem_eq_getElem_data]
theorem ba_cut (L : List UInt8) (a b : Nat) : (ba L).extract a b = ba ((L.drop a).take (b - a)) := ba_ext (by rw [Lib.extract_data, ba_list, ba_list])
/-- The pieces between signs, with the piece under way. -/
def fl (p : Nat → Bool) : Option (List UInt8) → List UInt8 → List (List UInt8)
  | none, [] => []
  | some c, [] => [c]
  | none, b :: r => if p b.toNat = true then fl p none r else fl p (some [b]) r
  | some c, b :: r => if p b.toNat = true then c :: fl p none r else fl p (some (c ++ [b])) r
theorem take_next (L : List UInt8) (a i : Nat) (ha : a ≤ i) (h : i < L.length) : (L.drop a).take (i + 1 - a) = (L.drop a).take (i - a) ++ [L[i]] := by
  rw [show i + 1 - a = (i - a) + 1 by omega, List.take_succ_eq_append_getElem (by rw [List.length_drop]; omega), List.getElem_drop]
  simp only [show a + (i - a) = i by omega]
theorem fields_go (p : Nat → Bool) (L : List UInt8) (ha : ∀ b ∈ L, b.toNat < 128) : ∀ (d pos f : Nat) (st : Option Nat) (acc : List (Nat × Nat)), pos + d = L.length → d ≤ f → (∀ a, st = some a → a ≤ pos) → (Lib.closeSpans (ba L) (Lib.spansFromP p (ba L) f pos st acc)).map (fun x => (ba L).extract x.1 x.2) = acc.map (fun x => (ba L).extract x.1 x.2) ++ (fl p (st.map fun a => (L.drop a).take (pos - a)) (L.drop pos)).map ba
  | 0, pos, f, st, acc, hp, hf, hs => by
    have e : ¬ pos < (ba L).size := by rw [ba_size]; omega
    rw [Lib.spansFromP_end p _ f pos st acc e, List.drop_eq_nil_of_le (by omega)]
    cases st with
    | none => simp [Lib.closeSpans, fl]
    | some a =>
      have hpl : pos = L.length := by omega
      simp [Lib.closeSpans, fl, ba_cut, ba_size, hpl]
  | d + 1, pos, f, st, acc, hp, hf, hs => by
    obtain ⟨f, rfl⟩ : ∃ q, f = q + 1 := ⟨f - 1, by omega⟩
    have hlt : pos < L.length := by omega
    have hlt' : pos < (ba L).size := by rw [ba_size]; exact hlt
    have hg := ba_get L pos hlt' hlt
    have hd : Utf8.decode (ba L) pos = ((L[pos]'hlt).toNat, 1) := by
      have e := Go.decode_ascii (ba L) pos hlt' (by rw [hg]; exact ha _ (List.getElem_mem _))
      rw [hg] at e
      exact e
    unfold Lib.spansFromP
    rw [if_pos hlt', hd, List.drop_eq_getElem_cons hlt]
    cases st with
    | none =>
      by_cases hb : p (L[pos]'hlt).toNat = true
      · simp only [hb, if_true]
        rw [fields_go p L ha d (pos + 1) f none acc (by omega) (by omega) (by simp)]
        simp only [Option.map_none, fl]
        rw [if_pos hb]
      · simp only [if_neg hb]
        rw [fields_go p L ha d (pos + 1) f (some pos) acc (by omega) (by omega) (by intro a h; cases h; omega)]
        simp only [Option.map_some, Option.map_none, fl]
        rw [if_neg hb, take_next L pos pos (Nat.le_refl _) hlt, Nat.sub_self, List.take_zero, List.nil_append]
    | some a =>
      have hap := hs a rfl
      by_cases hb : p (L[pos]'hlt).toNat = true
      · simp only [hb, if_true]
        rw [fields_go p L ha d (pos + 1) f none _ (by omega) (by omega) (by simp)]
        simp only [Option.map_some, Option.map_none, fl]
        rw [if_pos hb, List.map_append, List.append_assoc, List.map_cons, List.map_cons, List.map_nil, ba_cut]
        rfl
      · simp only [if_neg hb]
        rw [fields_go p L ha d (pos + 1) f (some a) acc (by omega) (by omega) (by intro b h; cases h; omega)]
        simp only [Option.map_some, fl]
        rw [if_neg hb, take_next L a pos hap hlt]
theorem fieldsP_ba (p : Nat → Bool) (L : List UInt8) (ha : ∀ b ∈ L, b.toNat < 128) : Lib.goFieldsP p (ba L) = (fl p none L).map ba := by
  unfold Lib.goFieldsP Lib.spansOfP
  rw [fields_go p L ha L.length 0 _ none [] (by omega) (by rw [ba_size]; exact Nat.le_refl _) (by simp)]
  simp
theorem fl_word (p : Nat → Bool) : ∀ (w c r : List UInt8), (∀ b ∈ w, p b.toNat = false) → fl p (some c) (w ++ r) = fl p (some (c ++ w)) r
  | [], c, r, _ => by simp
  | b :: w, c, r, h => by
    have hb := h b (by simp)
    rw [List.cons_append]
    simp only [fl, hb, Bool.false_eq_true, if_false]
    rw [fl_word p w _ r (fun x hx => h x (by simp [hx]))]
    simp
theorem fl_start (p : Nat → Bool) (w r : List UInt8) (hw : w ≠ []) (h : ∀ b ∈ w, p b.toNat = false) : fl p none (w ++ r) = fl p (some w) r := by
  cases w with
  | nil => exact absurd rfl hw
  | cons b w =>
    have hb := h b (by simp)
    rw [List.cons_append]
    simp only [fl, hb, Bool.false_eq_true, if_false]
    rw [fl_word p w _ r (fun x hx => h x (by simp [hx]))]
    rfl
theorem fl_sign (p : Nat → Bool) (c : List UInt8) (s : UInt8) (r : List UInt8) (hs : p s.toNat = true) : fl p (some c) (s :: r) = c :: fl p none r := by simp [fl, hs]
theorem fl_tl (p : Nat → Bool) (s : UInt8) (hs : p s.toNat = true) : ∀ (ws : List (List UInt8)) (c : List UInt8), (∀ w ∈ ws, w ≠ [] ∧ ∀ b ∈ w, p b.toNat = false) → fl p (some c) (tl s ws) = c :: ws
  | [], c, _ => by simp [tl, fl]
  | w :: ws, c, h => by
    have e : tl s (w :: ws) = s :: (w ++ tl s ws) := by simp [tl]
    rw [e, fl_sign p c s _ hs, fl_start p w _ (h w (by simp)).1 (h w (by simp)).2, fl_tl p s hs ws w (fun x hx => h x (by simp [hx]))]
theorem fl_jn (p : Nat → Bool) (s : UInt8) (hs : p s.toNat = true) (ws : List (List UInt8)) (h : ∀ w ∈ ws, w ≠ [] ∧ ∀ b ∈ w, p b.toNat = false) : fl p none (jn s ws) = ws := by
  cases ws with
  | nil => simp [jn, fl]
  | cons w ws =>
    show fl p none (w ++ tl s ws) = _
    rw [fl_start p w _ (h w (by simp)).1 (h w (by simp)).2, fl_tl p s hs ws w (fun x hx => h x (by simp [hx]))]
/-- How many pieces are under way. -/
def op : Option Nat → Nat
  | none => 0
  | some _ => 1
theorem spans_len (p : Nat → Bool) (s : ByteArray) : ∀ (f pos : Nat) (st : Option Nat) (acc : List (Nat × Nat)), (Lib.spansFromP p s f pos st acc).1.length + op (Lib.spansFromP p s f pos st acc).2 ≤ acc.length + op st + f
  | 0, _, _, _ => by simp [Lib.spansFromP]
  | f + 1, pos, st, acc => by
    unfold Lib.spansFromP
    split
    · split
      · cases st with
        | none => have := spans_len p s f (pos + (Utf8.decode s pos).2) none acc; simp only; omega
        | some a => have := spans_len p s f (pos + (Utf8.decode s pos).2) none (acc ++ [(a, pos)]); simp only [List.length_append, List.length_singleton, op] at this ⊢; omega
      · cases st with
        | none => have := spans_len p s f (pos + (Utf8.decode s pos).2) (some pos) acc; simp only [op] at this ⊢; omega
        | some a => have := spans_len p s f (pos + (Utf8.decode s pos).2) (some a) acc; simp only [op] at this ⊢; omega
    · simp only; omega
theorem words_len (p : Nat → Bool) (s : ByteArray) : (Lib.goFieldsP p s).length ≤ s.size := by
  have h := spans_len p s s.size 0 none []
  unfold Lib.goFieldsP Lib.spansOfP Lib.closeSpans
  rw [List.length_map]
  simp only [List.length_nil, op] at h
  split
  · rename_i e; rw [e] at h; rw [List.length_append, List.length_singleton]; simp only at h; omega
  · omega
theorem words_size (p : Nat → Bool) (s : ByteArray) : ∀ x ∈ Lib.goFieldsP p s, x.size ≤ s.size := by
  intro x hx
  obtain ⟨y, _, rfl⟩ := List.mem_map.1 hx
  rw [ByteArray.size_extract]
  omega
theorem splitB_size (sep : ByteArray) (save : Nat) : ∀ (k : Nat) (s : ByteArray), ∀ x ∈ Lib.splitB sep save k s, x.size ≤ s.size
  | 0, s, x, hx => by simp [Lib.splitB] at hx; rw [hx]; exact Nat.le_refl _
  | k + 1, s, x, hx => by
    unfold Lib.splitB at hx
    split at hx
    · simp at hx; rw [hx]; exact Nat.le_refl _
    · rcases List.mem_cons.1 hx with rfl | hx
      · rw [ByteArray.size_extract]; omega
      · have := splitB_size sep save k _ x hx
        rw [ByteArray.size_extract] at this
        omega
theorem index_at (c : UInt8) : ∀ (x t : List UInt8), c ∉ x → Lib.index (x ++ c :: t) [c] = (x.length : Int)
  | [], t, _ => by simp [Lib.index, List.isPrefixOf]
  | b :: x, t, h => by
    have hb : c ≠ b := fun e => h (by simp [e])
    have ih := index_at c x t (fun e => h (by simp [e]))
    have hp : ([c] : List UInt8).isPrefixOf (b :: (x ++ c :: t)) = false := by simp [List.isPrefixOf, hb]
    rw [List.cons_append, Lib.index, hp, ih]
    simp only [Bool.false_eq_true, if_false]
    rw [if_neg (by intro e; have := beq_iff_eq.1 e; omega)]
    simp
theorem splitK_jn (c : UInt8) : ∀ (r : List (List UInt8)) (x : List UInt8), (∀ y ∈ x :: r, c ∉ y) → Lib.splitK [c] 0 r.length (jn c (x :: r)) = x :: r
  | [], x, _ => by simp [Lib.splitK, jn, tl]
  | y :: r, x, h => by
    have e : jn c (x :: y :: r) = x ++ c :: jn c (y :: r) := by simp [jn, tl]
    have hi := index_at c x (jn c (y :: r)) (h x (by simp))
    rw [← e] at hi
    rw [List.length_cons, Lib.splitK, hi, if_neg (by intro e; have := beq_iff_eq.1 e; omega), show ((x.length : Int)).toNat = x.length from rfl, e]
    have e2 : (x ++ c :: jn c (y :: r)).drop (x.length + ([c] : List UInt8).length) = jn c (y :: r) := by
      rw [List.drop_append]; simp
    rw [e2, splitK_jn c r y (fun z hz => h z (by simp at hz ⊢; exact .inr hz))]
    simp
theorem count_tl (c : UInt8) : ∀ (r : List (List UInt8)), (∀ y ∈ r, c ∉ y) → (tl c r).count c = r.length
  | [], _ => by simp [tl]
  | y :: r, h => by
    have e : tl c (y :: r) = c :: (y ++ tl c r) := by simp [tl]
    rw [e, List.count_cons_self, List.count_append, List.count_eq_zero.2 (h y (by simp)), count_tl c r (fun z hz => h z (by simp [hz]))]
    simp
theorem splitB_jn (c : UInt8) (x : List UInt8) (r : List (List UInt8)) (h : ∀ y ∈ x :: r, c ∉ y) : Lib.splitB ⟨#[c]⟩ 0 (Lib.countB (ba (jn c (x :: r))) ⟨#[c]⟩) (ba (jn c (x :: r))) = (x :: r).map ba := by
  have hc : Lib.countB (ba (jn c (x :: r))) ⟨#[c]⟩ = r.length := by
    show Lib.count (ba (jn c (x :: r))).data.toList [c] = _
    rw [ba_list, Lib.count_one]
    show (x ++ tl c r).count c = _
    rw [List.count_append, List.count_eq_zero.2 (h x (by simp)), count_tl c r (fun z hz => h z (by simp [hz]))]
    simp
  rw [hc]
  have hs := Lib.splitB_data ⟨#[c]⟩ 0 r.length (ba (jn c (x :: r)))
  rw [ba_list, show (⟨#[c]⟩ : ByteArray).data.toList = [c] from rfl, splitK_jn c r x h] at hs
  have hm := congrArg (List.map ba) hs
  rw [List.map_map, show (ba ∘ fun x : ByteArray => x.data.toList) = id by funext s; exact ba_of s, List.map_id] at hm
  exact hm
theorem bt_ba (L : List UInt8) (i : Nat) (h : i < L.length) : bt (ba L) (i : Int) = ((L[i]'h).toNat : Int) := by
  have h' : (i : Int).toNat < (ba L).size := by rw [ba_size]; exact h
  unfold bt
  rw [dif_pos h', ba_get L ((i : Int).toNat) h' h]
  rfl
/-- What the reference reads out of a word's bytes. -/
def rd0 : Int → List UInt8 → Int
  | v, [] => v
  | v, b :: r => if (b.toNat : Int) < 48 then -1 else if (b.toNat : Int) > 57 then -1 else rd0 (wrap64 ((wrap64 (10 * v)) + (((b.toNat : Int) - 48) % 256))) r
def rdv (L : List UInt8) : Int := if 1 ≤ L.length ∧ L.length ≤ 6 ∧ ¬(L.head? = some 48 ∧ 1 < L.length) then rd0 0 L else -1
theorem l1Read_l0 (L : List UInt8) (hn : L.length ≤ 1000) : ∀ (d i k : Nat) (v : Int), i + d = L.length → d < k → spec_l1Read.l0 k (ba L) v (i : Int) = some (rd0 v (L.drop i))
  | 0, i, k, v, hi, hk => by
    obtain ⟨k, rfl⟩ : ∃ q, k = q + 1 := ⟨k - 1, by omega⟩
    simp only [spec_l1Read.l0]
    rw [if_neg (by rw [ba_size]; omega), List.drop_eq_nil_of_le (by omega)]
    rfl
  | d + 1, i, k, v, hi, hk => by
    obtain ⟨k, rfl⟩ : ∃ q, k = q + 1 := ⟨k - 1, by omega⟩
    have hlt : i < L.length := by omega
    simp only [spec_l1Read.l0]
    rw [if_pos (by rw [ba_size]; omega), if_pos (by omega), bt_ba L i hlt, List.drop_eq_getElem_cons hlt]
    simp only [rd0]
    rw [up64 hlt (by omega), l1Read_l0 L hn d (i + 1) k _ (by omega) (by omega)]
    split
    · rfl
    · split
      · rfl
      · rfl
theorem l1Read_f (L : List UInt8) (hn : L.length ≤ 1000) {k : Nat} (hk : L.length + 2 < k) : spec_l1Read.f k (ba L) = some (rdv L) := by
  obtain ⟨k, rfl⟩ : ∃ q, k = q + 1 := ⟨k - 1, by omega⟩
  have h0 := l1Read_l0 L hn L.length 0 k 0 (by omega) (by omega)
  rw [List.drop_zero, show ((0 : Nat) : Int) = 0 from rfl] at h0
  unfold spec_l1Read.f spec_l1In.f rdv
  by_cases h1 : 1 ≤ L.length
  · rw [if_pos (by rw [ba_size]; omega)]
    simp only [Option.bind_some]
    by_cases h2 : L.length ≤ 6
    · have hb := bt_ba L 0 (by omega)
      rw [show ((0 : Nat) : Int) = 0 from rfl] at hb
      have hh : L.head? = some (L[0]'(by omega)) := by cases L with | nil => simp at h1 | cons b r => rfl
      rw [if_pos (by rw [ba_size]; simp; omega), if_pos (by rw [ba_size]; omega), hb, hh]
      by_cases h3 : (L[0]'(by omega)) = 48
      · rw [if_pos (by rw [h3]; rfl), ba_size]
        simp only [spec_l1Read.j0]
        by_cases h4 : 1 < L.length
        · rw [if_pos (by simp; omega), if_neg (by rw [h3]; simp; omega)]
        · rw [if_neg (by simp; omega), if_pos ⟨h1, h2, by omega⟩, h0]
      · rw [if_neg (fun e => h3 (UInt8.toNat_inj.1 (by have : (48 : UInt8).toNat = 48 := rfl; omega)))]
        simp only [spec_l1Read.j0]
        rw [if_neg (by simp), h0, if_pos ⟨h1, h2, by simp [h3]⟩]
    · rw [if_neg (by rw [ba_size]; simp; omega), if_neg (by omega)]
      simp only [spec_l1Read.j0, if_true]
  · rw [if_neg (by rw [ba_size]; omega)]
    simp only [Option.bind_some, spec_l1Read.j0, Bool.false_eq_true, if_false, if_true]
    rw [if_neg (fun h => h1 h.1)]
/-- A text cut at a sign. -/
def sp (c : UInt8) : List UInt8 → List UInt8 → List (List UInt8)
  | cur, [] => [cur]
  | cur, b :: r => if b = c then cur :: sp c [] r else sp c (cur ++ [b]) r
theorem sp_len (c : UInt8) : ∀ (r cur : List UInt8), (sp c cur r).length ≤ r.length + 1
  | [], cur => by simp [sp]
  | b :: r, cur => by
    simp only [sp]
    split
    · have := sp_len c r []; simp only [List.length_cons]; omega
    · have := sp_len c r (cur ++ [b]); simp only [List.length_cons]; omega
theorem sp_size (c : UInt8) : ∀ (r cur : List UInt8), ∀ x ∈ sp c cur r, x.length ≤ cur.length + r.length
  | [], cur, x, hx => by simp [sp] at hx; rw [hx]; simp
  | b :: r, cur, x, hx => by
    simp only [sp] at hx
    split at hx
    · rcases List.mem_cons.1 hx with rfl | hx
      · simp
      · have := sp_size c r [] x hx; simp at this; simp only [List.length_cons]; omega
    · have := sp_size c r _ x hx; simp only [List.length_append, List.length_singleton] at this; simp only [List.length_cons]; omega
theorem sp_word (c : UInt8) : ∀ (w cur r : List UInt8), c ∉ w → sp c cur (w ++ r) = sp c (cur ++ w) r
  | [], cur, r, _ => by simp
  | b :: w, cur, r, h => by
    have hb : ¬ b = c := fun e => h (by simp [e])
    rw [List.cons_append]
    simp only [sp]
    rw [if_neg hb, sp_word c w _ r (fun e => h (by simp [e]))]
    simp
theorem sp_tl (c : UInt8) : ∀ (r : List (List UInt8)) (cur : List UInt8), (∀ y ∈ r, c ∉ y) → sp c cur (tl c r) = cur :: r
  | [], cur, _ => by simp [tl, sp]
  | y :: r, cur, h => by
    have e : tl c (y :: r) = c :: (y ++ tl c r) := by simp [tl]
    rw [e]
    simp only [sp]
    rw [if_pos trivial, sp_word c y [] _ (h y (by simp)), sp_tl c r _ (fun z hz => h z (by simp [hz]))]
    simp
theorem sp_jn (c : UInt8) (x : List UInt8) (r : List (List UInt8)) (h : ∀ y ∈ x :: r, c ∉ y) : sp c [] (jn c (x :: r)) = x :: r := by
  show sp c [] (x ++ tl c r) = _
  rw [sp_word c x [] _ (h x (by simp)), sp_tl c r _ (fun z hz => h z (by simp [hz]))]
  simp
theorem l1Split_l0 (c : UInt8) (L : List UInt8) (hn : L.length ≤ 1000) : ∀ (d i a k : Nat) (acc : List ByteArray), i + d = L.length → a ≤ i → acc.length + d ≤ 2000 → d < k → spec_l1Split.l0 k (ba L) (c.toNat : Int) acc (a : Int) (i : Int) = some (acc ++ (sp c ((L.drop a).take (i - a)) (L.drop i)).map ba)
  | 0, i, a, k, acc, hi, ha, hacc, hk => by
    obtain ⟨k, rfl⟩ : ∃ q, k = q + 1 := ⟨k - 1, by omega⟩
    simp only [spec_l1Split.l0]
    rw [if_neg (by rw [ba_size]; omega), if_pos (by omega), if_pos (by rw [ba_size]; omega), if_pos (by omega), (show L.drop i = [] from List.drop_eq_nil_of_le (by omega)), show ((a : Nat) : Int).toNat = a from rfl, ba_size, ba_cut, show L.length - a = i - a by omega]
    simp [sp]
  | d + 1, i, a, k, acc, hi, ha, hacc, hk => by
    obtain ⟨k, rfl⟩ : ∃ q, k = q + 1 := ⟨k - 1, by omega⟩
    have hlt : i < L.length := by omega
    simp only [spec_l1Split.l0]
    rw [if_pos (by rw [ba_size]; omega), if_pos (by omega), bt_ba L i hlt, List.drop_eq_getElem_cons hlt]
    simp only [sp]
    by_cases hc : L[i]'hlt = c
    · rw [if_pos (by rw [hc]), if_pos (by omega), if_pos (by omega), if_pos (by rw [ba_size]; omega), if_pos (by omega), up64 hlt (by omega), show ((a : Nat) : Int).toNat = a from rfl, show ((i : Nat) : Int).toNat = i from rfl, ba_cut, l1Split_l0 c L hn d (i + 1) (i + 1) k _ (by omega) (by omega) (by simp; omega) (by omega), if_pos hc, Nat.sub_self, List.take_zero, List.map_cons, List.append_assoc, List.singleton_append]
    · rw [if_neg (fun e => hc (UInt8.toNat_inj.1 (by omega))), up64 hlt (by omega), l1Split_l0 c L hn d (i + 1) a k _ (by omega) (by omega) (by omega) (by omega), if_neg hc, take_next L a i ha hlt]
theorem l1Split_f (c : UInt8) (L : List UInt8) (hn : L.length ≤ 1000) {k : Nat} (hk : L.length < k) : spec_l1Split.f k (ba L) (c.toNat : Int) = some ((sp c [] L).map ba) := by
  have h := l1Split_l0 c L hn L.length 0 0 k [] (by omega) (by omega) (by simp; omega) hk
  unfold spec_l1Split.f
  simpa using h
theorem jn_len1 (s : UInt8) (B : Nat) (xs : List (List UInt8)) (h0 : xs ≠ []) (h : ∀ y ∈ xs, y.length ≤ B) : (jn s xs).length + 1 ≤ (B + 1) * xs.length := by
  cases xs with
  | nil => exact absurd rfl h0
  | cons x r =>
    have h1 := h x (by simp)
    have h2 := tl_len s B r (fun y hy => h y (by simp [hy]))
    simp only [jn, List.length_append, List.length_cons, Nat.mul_add]
    omega
theorem mem_tl (c b : UInt8) : ∀ (r : List (List UInt8)), b ∈ tl c r → b = c ∨ ∃ y ∈ r, b ∈ y
  | [], h => by simp [tl] at h
  | y :: r, h => by
    have e : tl c (y :: r) = c :: (y ++ tl c r) := by simp [tl]
    rw [e] at h
    rcases List.mem_cons.1 h with h | h
    · exact .inl h
    · rcases List.mem_append.1 h with h | h
      · exact .inr ⟨y, by simp, h⟩
      · rcases mem_tl c b r h with h | ⟨z, hz, h⟩
        · exact .inl h
        · exact .inr ⟨z, by simp [hz], h⟩
theorem mem_jn (c b : UInt8) (xs : List (List UInt8)) (h : b ∈ jn c xs) : b = c ∨ ∃ y ∈ xs, b ∈ y := by
  cases xs with
  | nil => simp [jn] at h
  | cons x r =>
    rcases List.mem_append.1 (show b ∈ x ++ tl c r from h) with h | h
    · exact .inr ⟨x, by simp, h⟩
    · rcases mem_tl c b r h with h | ⟨z, hz, h⟩
      · exact .inl h
      · exact .inr ⟨z, by simp [hz], h⟩
theorem run_len (m : Int) : ∀ (ws : List ByteArray) (out : List Int), (impl_numbers.run m ws out).1.length ≤ out.length + ws.length
  | [], out => by simp [impl_numbers.run]
  | w :: ws, out => by
    simp only [impl_numbers.run]
    split
    · have := run_len m ws (out ++ [(impl_number.f w m).1]); simp at this ⊢; omega
    · simp
theorem ba_inj {L M : List UInt8} : (ba L).toList = (ba M).toList ↔ L = M := by
  rw [ByteArray.toList_eq, ByteArray.toList_eq, ba_list, ba_list]
theorem rdOf_ba (P : List (List UInt8)) (i : Nat) (h : i < P.length) : rdOf ByteArray.empty (P.map ba) (i : Int) = ba (P[i]'h) := by
  unfold rdOf
  simp [List.getD_eq_getElem?_getD, h]
theorem dec_byte (P : UInt8 → Prop) (hP : ∀ d < 10, P (UInt8.ofNat (48 + d))) (n : Nat) (h : n < 100) : ∀ b ∈ Lib.decDigits n, P b := by
  intro b hb
  by_cases h0 : n < 10
  · rw [dec_lt10 n h0, List.mem_singleton] at hb
    rw [hb]
    exact hP n h0
  · rw [dec_lt100 n (by omega) h] at hb
    rcases List.mem_cons.1 hb with rfl | hb
    · exact hP _ (by omega)
    · rw [List.mem_singleton] at hb
      rw [hb]
      exact hP _ (by omega)
theorem dec_ne (n : Nat) (h : n < 100) : Lib.decDigits n ≠ [] := by
  by_cases h0 : n < 10
  · rw [dec_lt10 n h0]; simp
  · rw [dec_lt100 n (by omega) h]; simp
theorem number_dec (n : Nat) (h : n ≤ 60) : impl_number.f (ba (Lib.decDigits n)) 60 = ((n : Int), true) := by
  have hA : Lib.atoiAll (Lib.decDigits n) = .ok (n : Int) := by
    by_cases h0 : n < 10
    · rw [dec_lt10 n h0]
      have h : ∀ n : Nat, n < 10 → Lib.atoiAll [UInt8.ofNat (48 + n)] = .ok (n : Int) := by decide +kernel
      exact h n h0
    · rw [dec_lt100 n (by omega) (by omega)]
      have h : ∀ n : Nat, n < 100 → 10 ≤ n → Lib.atoiAll [UInt8.ofNat (48 + n / 10), UInt8.ofNat (48 + n % 10)] = .ok (n : Int) := by decide +kernel
      exact h n (by omega) (by omega)
  have hI : Lib.itoa (n : Int) = Lib.decDigits n := by
    unfold Lib.itoa
    rw [if_neg (by omega)]
    rfl
  unfold impl_number.f
  rw [ba_list, hA]
  simp only
  rw [hI, if_pos ⟨rfl, by omega, by omega⟩]
theorem number_int (x : Int) (h0 : 0 ≤ x) (h1 : x ≤ 60) : impl_number.f (ba (Lib.decDigits x.toNat)) 60 = (x, true) := by
  have h := number_dec x.toNat (by omega)
  rw [show ((x.toNat : Nat) : Int) = x by omega] at h
  exact h
/-- The numbers of sends, and their words. -/
def flat : List S51 → List Int
  | [] => []
  | c :: r => c.f0 :: c.f1 :: c.f2 :: flat r
def wds : List S51 → List (List UInt8)
  | [] => []
  | c :: r => Lib.decDigits c.f0.toNat :: Lib.decDigits c.f1.toNat :: Lib.decDigits c.f2.toNat :: wds r
theorem sends_flat : ∀ T : List S51, impl_ParseSends.sends (flat T) = T
  | [] => rfl
  | c :: r => by simp only [flat, impl_ParseSends.sends]; rw [sends_flat r]
theorem flat_len : ∀ T : List S51, (flat T).length = 3 * T.length
  | [] => rfl
  | c :: r => by simp only [flat, List.length_cons]; rw [flat_len r]; omega
theorem wds_len : ∀ T : List S51, (wds T).length = 3 * T.length
  | [] => rfl
  | c :: r => by simp only [wds, List.length_cons]; rw [wds_len r]; omega
theorem wds_mem : ∀ (T : List S51), (∀ c ∈ T, tld c) → ∀ w ∈ wds T, ∃ n : Nat, n ≤ 60 ∧ w = Lib.decDigits n
  | [], _, w, hw => by simp [wds] at hw
  | c :: r, h, w, hw => by
    obtain ⟨h1, h2, h3⟩ := h c (by simp)
    simp only [wds, List.mem_cons] at hw
    rcases hw with rfl | rfl | rfl | hw
    · exact ⟨_, by omega, rfl⟩
    · exact ⟨_, by omega, rfl⟩
    · exact ⟨_, by omega, rfl⟩
    · exact wds_mem r (fun d hd => h d (by simp [hd])) w hw
theorem run_wds : ∀ (T : List S51) (out : List Int), (∀ c ∈ T, tld c) → impl_numbers.run 60 ((wds T).map ba) out = (out ++ flat T, true)
  | [], out, _ => by simp [impl_numbers.run, wds, flat]
  | c :: T, out, h => by
    obtain ⟨h1, h2, h3⟩ := h c (by simp)
    simp only [wds, List.map_cons, impl_numbers.run]
    rw [number_int _ h1.1 h1.2, if_pos rfl, number_int _ h2.1 h2.2, if_pos rfl, number_int _ h3.1 h3.2, if_pos rfl, run_wds T _ (fun d hd => h d (by simp [hd]))]
    simp [flat]
def sg : Nat → Bool := strings_ContainsRune.p ⟨#[62, 64, 59]⟩
theorem dec_sg (n : Nat) (h : n < 100) : ∀ b ∈ Lib.decDigits n, sg b.toNat = false := dec_byte (fun b => sg b.toNat = false) (by decide) n h
theorem fl_sd (c : S51) (h : tld c) (r : List UInt8) : fl sg none (sd c ++ r) = Lib.decDigits c.f0.toNat :: Lib.decDigits c.f1.toNat :: fl sg (some (Lib.decDigits c.f2.toNat)) r := by
  obtain ⟨h1, h2, h3⟩ := h
  have e : sd c ++ r = Lib.decDigits c.f0.toNat ++ (62 :: (Lib.decDigits c.f1.toNat ++ (64 :: (Lib.decDigits c.f2.toNat ++ r)))) := by simp [sd]
  rw [e, fl_start sg _ _ (dec_ne _ (by omega)) (dec_sg _ (by omega)), fl_sign sg _ 62 _ (by decide), fl_start sg _ _ (dec_ne _ (by omega)) (dec_sg _ (by omega)), fl_sign sg _ 64 _ (by decide), fl_start sg _ _ (dec_ne _ (by omega)) (dec_sg _ (by omega))]
theorem fl_tlsd : ∀ (T : List S51) (w : List UInt8), (∀ c ∈ T, tld c) → fl sg (some w) (tl 59 (T.map sd)) = w :: wds T
  | [], w, _ => by simp [tl, fl, wds]
  | c :: T, w, h => by
    have e : tl 59 ((c :: T).map sd) = 59 :: (sd c ++ tl 59 (T.map sd)) := by simp [tl]
    rw [e, fl_sign sg w 59 _ (by decide), fl_sd c (h c (by simp)), fl_tlsd T _ (fun d hd => h d (by simp [hd]))]
    rfl
theorem fl_text (T : List S51) (h : ∀ c ∈ T, tld c) : fl sg none (jn 59 (T.map sd)) = wds T := by
  cases T with
  | nil => rfl
  | cons c T =>
    show fl sg none (sd c ++ tl 59 (T.map sd)) = _
    rw [fl_sd c (h c (by simp)), fl_tlsd T _ (fun d hd => h d (by simp [hd]))]
    rfl
theorem sd_byte (P : UInt8 → Prop) (hP : ∀ d < 10, P (UInt8.ofNat (48 + d))) (h62 : P 62) (h64 : P 64) (c : S51) (h : tld c) : ∀ b ∈ sd c, P b := by
  obtain ⟨h1, h2, h3⟩ := h
  intro b hb
  simp only [sd, List.mem_append, List.mem_cons] at hb
  rcases hb with hb | rfl | hb | rfl | hb
  · exact dec_byte P hP _ (by omega) b hb
  · exact h62
  · exact dec_byte P hP _ (by omega) b hb
  · exact h64
  · exact dec_byte P hP _ (by omega) b hb
theorem text_byte (T : List S51) (h : ∀ c ∈ T, tld c) : ∀ b ∈ jn 59 (T.map sd), b.toNat < 128 := by
  intro b hb
  rcases mem_jn 59 b _ hb with rfl | ⟨y, hy, hb⟩
  · decide
  · obtain ⟨c, hc, rfl⟩ := List.mem_map.1 hy
    exact sd_byte (fun b => b.toNat < 128) (by decide) (by decide) (by decide) c (h c hc) b hb
theorem text_len (T : List S51) (hn : T.length ≤ 40) (h : ∀ c ∈ T, tld c) : (jn 59 (T.map sd)).length ≤ 360 := by
  have := jn_len 59 8 (T.map sd) (fun y hy => by obtain ⟨c, hc, rfl⟩ := List.mem_map.1 hy; exact sd_len c (h c hc))
  rw [List.length_map] at this
  omega
theorem numbers_text (T : List S51) (hn : T.length ≤ 40) (h : ∀ c ∈ T, tld c) : impl_numbers.f (ba (jn 59 (T.map sd))) 60 = some (flat T, true) := by
  have hw : impl_numbers.words (ba (jn 59 (T.map sd))) = (wds T).map ba := by
    unfold impl_numbers.words
    rw [fieldsP_ba _ _ (text_byte T h)]
    exact congrArg (List.map ba) (fl_text T h)
  have hl := text_len T hn h
  have hk := wds_len T
  unfold impl_numbers.f
  rw [hw, if_pos ⟨by rw [ba_size]; omega, by rw [List.length_map]; omega, fun x hx => by
    obtain ⟨y, hy, rfl⟩ := List.mem_map.1 hx
    obtain ⟨n, hn, rfl⟩ := wds_mem T h y hy
    have := dec_len n (by omega)
    rw [ba_size]
    omega⟩, run_wds T [] h]
  rfl
/-- Sends whose numbers can be told. -/
def told (l : List S51) : Bool := decide (l.length ≤ 40) && l.all fun c => !impl_areTold_1.p c
theorem areTold_f (l : List S51) : impl_areTold.f l = some (told l) := by
  unfold impl_areTold.f impl_areTold_1.f told
  by_cases h : l.length ≤ 40
  · rw [if_pos (by omega), Option.bind_some, not_anyL, decide_eq_true h, Bool.true_and]
  · rw [if_neg (by omega), decide_eq_false h, Bool.false_and]
theorem told_iff (l : List S51) : told l = true ↔ l.length ≤ 40 ∧ ∀ c ∈ l, tld c := by
  unfold told
  rw [Bool.and_eq_true, decide_eq_true_eq, List.all_eq_true]
  constructor
  · exact fun ⟨h1, h2⟩ => ⟨h1, fun c hc => (p_tld c).1 (by have := h2 c hc; simpa using this)⟩
  · exact fun ⟨h1, h2⟩ => ⟨h1, fun c hc => by rw [(p_tld c).2 (h2 c hc)]; rfl⟩
theorem sendsText_f (l : List S51) (h : told l = true) {k : Nat} (hk : 100 < k) : impl_sendsText.f k l = some (ba (jn 59 (l.map sd))) := by
  obtain ⟨h1, h2⟩ := (told_iff l).1 h
  have h := sends_l0 l h1 h2 l.length 0 k (by omega) (by omega)
  unfold impl_sendsText.f
  simpa using h
theorem impl_yes (T : List S51) (h : told T = true) {k : Nat} (hk : 100 < k) : impl_ParseSends.f k (ba (jn 59 (T.map sd))) = some (T, true) := by
  obtain ⟨h1, h2⟩ := (told_iff T).1 h
  have hl := text_len T h1 h2
  have hf := flat_len T
  unfold impl_ParseSends.f
  rw [if_pos (by rw [ba_size]; omega), numbers_text T h1 h2, Option.bind_some]
  simp only
  rw [if_pos (by omega), if_pos ⟨trivial, by omega⟩, sends_flat, areTold_f, Option.bind_some]
  rw [if_pos h, sendsText_f T h hk, Option.bind_some, if_pos rfl]
theorem impl_no (L : List UInt8) (hL : L.length ≤ 1048576) (h : ∀ T, ¬ (told T = true ∧ jn 59 (T.map sd) = L)) {k : Nat} (hk : 100 < k) : impl_ParseSends.f k (ba L) = some ([], false) := by
  have hw := words_len sg (ba L)
  have hz := words_size sg (ba L)
  have hr := run_len 60 (impl_numbers.words (ba L)) []
  rw [ba_size] at hw hz
  have hw2 : (impl_numbers.words (ba L)).length ≤ L.length := hw
  have hn : impl_numbers.f (ba L) 60 = some (impl_numbers.run 60 (impl_numbers.words (ba L)) []) := by
    unfold impl_numbers.f
    rw [if_pos ⟨by rw [ba_size]; omega, by omega, fun x hx => by have := hz x hx; omega⟩]
  rw [List.length_nil] at hr
  unfold impl_ParseSends.f
  rw [if_pos (by rw [ba_size]; omega), hn, Option.bind_some]
  generalize impl_numbers.run 60 (impl_numbers.words (ba L)) [] = t at hr ⊢
  rw [if_pos (by omega)]
  split
  · rw [areTold_f, Option.bind_some]
    split
    · rename_i hq
      rw [sendsText_f _ hq hk, Option.bind_some, if_neg (fun e => h _ ⟨hq, ba_inj.1 e⟩)]
    · rfl
  · rfl
theorem sp_ne (c : UInt8) : ∀ (r cur : List UInt8), sp c cur r ≠ []
  | [], cur => by simp [sp]
  | b :: r, cur => by
    simp only [sp]
    split
    · simp
    · exact sp_ne c r _
/-- The pieces of a text, put together again. -/
theorem jn_sp (c : UInt8) : ∀ (r cur : List UInt8), jn c (sp c cur r) = cur ++ r
  | [], cur => by simp [sp, jn, tl]
  | b :: r, cur => by
    simp only [sp]
    split
    · rename_i hb
      have ih := jn_sp c r []
      obtain ⟨x, xs, hx⟩ : ∃ x xs, sp c [] r = x :: xs := by
        cases h : sp c [] r with
        | nil => exact absurd h (sp_ne c r [])
        | cons x xs => exact ⟨x, xs, rfl⟩
      rw [hx] at ih ⊢
      have e : jn c (cur :: x :: xs) = cur ++ c :: jn c (x :: xs) := by simp [jn, tl]
      rw [e, ih, hb]
      simp
    · rw [jn_sp c r _]
      simp
theorem rd0_ge : ∀ (L : List UInt8) (v : Int), 0 ≤ v → v * 10 ^ L.length + 10 ^ L.length ≤ 1000000000 → rd0 v L = -1 ∨ v ≤ rd0 v L
  | [], v, _, _ => .inr (by simp [rd0])
  | b :: r, v, h0, h1 => by
    simp only [rd0]
    split
    · exact .inl rfl
    · split
      · exact .inl rfl
      · rename_i hb1 hb2
        have hp : (1 : Int) ≤ 10 ^ r.length := by
          have : (0 : Int) < 10 ^ r.length := Int.pow_pos (by omega)
          omega
        rw [List.length_cons, Int.pow_succ] at h1
        have e3 : (10 * v + ((b.toNat : Int) - 48)) * 10 ^ r.length + 10 ^ r.length ≤ 1000000000 := by
          have e : v * (10 ^ r.length * 10) + 10 ^ r.length * 10 - ((10 * v + ((b.toNat : Int) - 48)) * 10 ^ r.length + 10 ^ r.length) = (57 - (b.toNat : Int)) * 10 ^ r.length := by
            generalize (10 : Int) ^ r.length = q
            generalize (b.toNat : Int) = z
            simp only [Int.add_mul, Int.sub_mul, Int.mul_add, Int.mul_sub, Int.mul_assoc, Int.mul_comm q 10, Int.mul_left_comm v 10 q]
            omega
          have : 0 ≤ (57 - (b.toNat : Int)) * 10 ^ r.length := Int.mul_nonneg (by omega) (by omega)
          omega
        have hv : v ≤ 1000000000 := by
          have : v * 1 ≤ v * (10 ^ r.length * 10) := Int.mul_le_mul_of_nonneg_left (by omega) h0
          omega
        have ew : wrap64 (wrap64 (10 * v) + ((b.toNat : Int) - 48) % 256) = 10 * v + ((b.toNat : Int) - 48) := by
          rw [w64 (x := 10 * v) (by omega) (by omega), w64 (by omega) (by omega)]
          omega
        rw [ew]
        rcases rd0_ge r (10 * v + ((b.toNat : Int) - 48)) (by omega) e3 with h | h
        · exact .inl h
        · exact .inr (by omega)
theorem dig_of (b : UInt8) (h0 : 48 ≤ b.toNat) (h1 : b.toNat ≤ 57) : UInt8.ofNat (48 + (b.toNat - 48)) = b := by
  rw [show 48 + (b.toNat - 48) = b.toNat by omega]
  simp
theorem rd0_one (v : Int) (h0 : 0 ≤ v) (h1 : v ≤ 100000) (b : UInt8) (r : List UInt8) : rd0 v (b :: r) = if 48 ≤ b.toNat ∧ b.toNat ≤ 57 then rd0 (10 * v + ((b.toNat : Int) - 48)) r else -1 := by
  simp only [rd0]
  by_cases h2 : 48 ≤ b.toNat
  · by_cases h3 : b.toNat ≤ 57
    · rw [if_neg (by omega), if_neg (by omega), if_pos ⟨h2, h3⟩]
      have ew : wrap64 (wrap64 (10 * v) + ((b.toNat : Int) - 48) % 256) = 10 * v + ((b.toNat : Int) - 48) := by
        rw [w64 (x := 10 * v) (by omega) (by omega), w64 (by omega) (by omega)]
        omega
      rw [ew]
    · rw [if_neg (by omega), if_pos (by omega), if_neg (by omega)]
  · rw [if_pos (by omega), if_neg (by omega)]
theorem rdv_inv (L : List UInt8) (h0 : 0 ≤ rdv L) (h1 : rdv L ≤ 60) : L = Lib.decDigits (rdv L).toNat := by
  unfold rdv at h0 h1 ⊢
  split at h0
  case isFalse => omega
  rename_i hc
  rw [if_pos hc] at h1 ⊢
  obtain ⟨c1, c2, c3⟩ := hc
  match L, c1, c2, c3, h0, h1 with
  | [], c1, _, _, _, _ => simp at c1
  | [a], _, _, _, h0, h1 =>
    rw [rd0_one 0 (by omega) (by omega)] at h0 h1 ⊢
    split at h0
    case isFalse => omega
    rename_i ha
    rw [if_pos ha] at h1 ⊢
    simp only [rd0] at h0 h1 ⊢
    rw [show (10 * 0 + ((a.toNat : Int) - 48)).toNat = a.toNat - 48 by omega, dec_lt10 _ (by omega), dig_of a ha.1 ha.2]
  | [a, b], _, _, c3, h0, h1 =>
    rw [rd0_one 0 (by omega) (by omega)] at h0 h1 ⊢
    split at h0
    case isFalse => omega
    rename_i ha
    rw [if_pos ha] at h1 ⊢
    rw [rd0_one _ (by omega) (by omega)] at h0 h1 ⊢
    split at h0
    case isFalse => omega
    rename_i hb
    rw [if_pos hb] at h1 ⊢
    simp only [rd0] at h0 h1 ⊢
    have hne : a.toNat ≠ 48 := fun e => c3 ⟨by rw [List.head?_cons]; congr 1; exact UInt8.toNat_inj.1 e, by simp⟩
    have e1 : (10 * (10 * 0 + ((a.toNat : Int) - 48)) + ((b.toNat : Int) - 48)).toNat = 10 * (a.toNat - 48) + (b.toNat - 48) := by omega
    rw [e1, dec_lt100 _ (by omega) (by omega), show (10 * (a.toNat - 48) + (b.toNat - 48)) / 10 = a.toNat - 48 by omega, show (10 * (a.toNat - 48) + (b.toNat - 48)) % 10 = b.toNat - 48 by omega, dig_of a ha.1 ha.2, dig_of b hb.1 hb.2]
  | a :: b :: c :: r, _, c2, c3, h0, h1 =>
    exfalso
    rw [rd0_one 0 (by omega) (by omega)] at h0 h1
    split at h0
    case isFalse => omega
    rename_i ha
    rw [if_pos ha] at h1
    rw [rd0_one _ (by omega) (by omega)] at h0 h1
    split at h0
    case isFalse => omega
    rename_i hb
    rw [if_pos hb] at h1
    have hne : a.toNat ≠ 48 := fun e => c3 ⟨by rw [List.head?_cons]; congr 1; exact UInt8.toNat_inj.1 e, by simp⟩
    rw [rd0_one _ (by omega) (by omega)] at h0 h1
    split at h0
    case isFalse => omega
    rename_i hcc
    rw [if_pos hcc] at h1
    have hr : r.length ≤ 3 := by simp only [List.length_cons] at c2; omega
    have hp : (10 : Int) ^ r.length ≤ 1000 := by
      have h : ∀ n : Nat, n ≤ 3 → (10 : Int) ^ n ≤ 1000 := by decide
      exact h _ hr
    have hp0 : (0 : Int) < 10 ^ r.length := Int.pow_pos (by omega)
    have hv : ∀ v : Int, 0 ≤ v → v ≤ 1000 → v * 10 ^ r.length + 10 ^ r.length ≤ 1000000000 := fun v hv hv1 => by
      have : v * 10 ^ r.length ≤ v * 1000 := Int.mul_le_mul_of_nonneg_left hp hv
      omega
    rcases rd0_ge r _ (by omega) (hv (10 * (10 * (10 * 0 + ((a.toNat : Int) - 48)) + ((b.toNat : Int) - 48)) + ((c.toNat : Int) - 48)) (by omega) (by omega)) with h | h
    · omega
    · omega
theorem rdv_dec (n : Nat) (h : n ≤ 60) : rdv (Lib.decDigits n) = (n : Int) := by
  by_cases h0 : n < 10
  · rw [dec_lt10 n h0]
    have h : ∀ n : Nat, n < 10 → rdv [UInt8.ofNat (48 + n)] = (n : Int) := by decide +kernel
    exact h n h0
  · rw [dec_lt100 n (by omega) (by omega)]
    have h : ∀ n : Nat, n < 100 → 10 ≤ n → rdv [UInt8.ofNat (48 + n / 10), UInt8.ofNat (48 + n % 10)] = (n : Int) := by decide +kernel
    exact h n (by omega) (by omega)
theorem rdv_int (x : Int) (h0 : 0 ≤ x) (h1 : x ≤ 60) : rdv (Lib.decDigits x.toNat) = x := by
  have h := rdv_dec x.toNat (by omega)
  rw [show ((x.toNat : Nat) : Int) = x by omega] at h
  exact h
/-- What the reference makes of one part. -/
def pt (t : List UInt8) : Option S51 := match sp 62 [] t with
  | [a, b] => (match sp 64 [] b with
    | [c, d] => some ⟨rdv a, rdv c, rdv d⟩
    | _ => none)
  | _ => none
/-- What it makes of all. -/
def pts : List S51 → List (List UInt8) → List S51 × Bool
  | out, [] => if told out = true then (out, true) else ([], false)
  | out, t :: r => match pt t with
    | none => ([], false)
    | some c => pts (out ++ [c]) r
theorem pt_inv (t : List UInt8) (c : S51) (h : pt t = some c) (hc : tld c) : t = sd c := by
  unfold pt at h
  split at h
  case h_2 => cases h
  rename_i a b hab
  split at h
  case h_2 => cases h
  rename_i u v huv
  obtain rfl := Option.some.inj h
  obtain ⟨h1, h2, h3⟩ := hc
  have e1 := jn_sp 62 t []
  have e2 := jn_sp 64 b []
  rw [hab] at e1
  rw [huv] at e2
  have e3 : t = a ++ 62 :: b := by rw [List.nil_append] at e1; rw [← e1]; simp [jn, tl]
  have e4 : b = u ++ 64 :: v := by rw [List.nil_append] at e2; rw [← e2]; simp [jn, tl]
  rw [e3, e4]
  unfold sd
  rw [← rdv_inv a h1.1 h1.2, ← rdv_inv u h2.1 h2.2, ← rdv_inv v h3.1 h3.2]
theorem dec_not (s : UInt8) (hs : ∀ d < 10, UInt8.ofNat (48 + d) ≠ s) (n : Nat) (h : n < 100) : s ∉ Lib.decDigits n := fun hm => dec_byte (fun b => b ≠ s) hs n h s hm rfl
theorem pt_sd (c : S51) (hc : tld c) : pt (sd c) = some c := by
  obtain ⟨h1, h2, h3⟩ := hc
  have e1 : sd c = jn 62 [Lib.decDigits c.f0.toNat, Lib.decDigits c.f1.toNat ++ 64 :: Lib.decDigits c.f2.toNat] := by simp [sd, jn, tl]
  have e2 : Lib.decDigits c.f1.toNat ++ 64 :: Lib.decDigits c.f2.toNat = jn 64 [Lib.decDigits c.f1.toNat, Lib.decDigits c.f2.toNat] := by simp [jn, tl]
  have n0 := dec_not 62 (by decide) c.f0.toNat (by omega)
  have n1 := dec_not 62 (by decide) c.f1.toNat (by omega)
  have n2 := dec_not 62 (by decide) c.f2.toNat (by omega)
  have n3 := dec_not 64 (by decide) c.f1.toNat (by omega)
  have n4 := dec_not 64 (by decide) c.f2.toNat (by omega)
  unfold pt
  rw [e1, sp_jn 62 _ _ (by
    intro y hy hb
    simp only [List.mem_cons, List.not_mem_nil, or_false] at hy
    rcases hy with rfl | rfl
    · exact n0 hb
    · simp only [List.mem_append, List.mem_cons] at hb
      rcases hb with hb | hb | hb
      · exact n1 hb
      · exact absurd hb (by decide)
      · exact n2 hb)]
  simp only
  rw [e2, sp_jn 64 _ _ (by
    intro y hy hb
    simp only [List.mem_cons, List.not_mem_nil, or_false] at hy
    rcases hy with rfl | rfl
    · exact n3 hb
    · exact n4 hb)]
  simp only
  rw [rdv_int _ h1.1 h1.2, rdv_int _ h2.1 h2.2, rdv_int _ h3.1 h3.2]
theorem pts_sd : ∀ (T out : List S51), (∀ c ∈ T, tld c) → pts out (T.map sd) = if told (out ++ T) = true then (out ++ T, true) else ([], false)
  | [], out, _ => by simp [pts]
  | c :: T, out, h => by
    simp only [List.map_cons, pts]
    rw [pt_sd c (h c (by simp))]
    simp only
    rw [pts_sd T _ (fun d hd => h d (by simp [hd])), List.append_assoc, List.singleton_append]
theorem pts_inv : ∀ (P : List (List UInt8)) (out r : List S51) (b : Bool), pts out P = (r, b) → (b = false ∧ r = []) ∨ (b = true ∧ told r = true ∧ ∃ T, r = out ++ T ∧ P = T.map sd)
  | [], out, r, b, h => by
    simp only [pts] at h
    split at h
    · rename_i ht
      obtain ⟨rfl, rfl⟩ := Prod.mk.inj h
      exact .inr ⟨rfl, ht, [], by simp, rfl⟩
    · obtain ⟨rfl, rfl⟩ := Prod.mk.inj h
      exact .inl ⟨rfl, rfl⟩
  | t :: P, out, r, b, h => by
    simp only [pts] at h
    cases hp : pt t with
    | none =>
      rw [hp] at h
      obtain ⟨rfl, rfl⟩ := Prod.mk.inj h
      exact .inl ⟨rfl, rfl⟩
    | some c =>
      rw [hp] at h
      rcases pts_inv P _ r b h with h | ⟨h1, h2, T, hT, hP⟩
      · exact .inl h
      · have hc : tld c := ((told_iff r).1 h2).2 c (by rw [hT]; simp)
        exact .inr ⟨h1, h2, c :: T, by rw [hT]; simp, by rw [hP, List.map_cons, pt_inv t c hp hc]⟩
/-- The reference's answer. -/
def prs (L : List UInt8) : List S51 × Bool := if L = [] then ([], true) else if 400 < L.length then ([], false) else pts [] (sp 59 [] L)
theorem sd_ne (c : S51) (h : tld c) : sd c ≠ [] := by simp [sd]
theorem prs_yes (T : List S51) (h : told T = true) : prs (jn 59 (T.map sd)) = (T, true) := by
  obtain ⟨h1, h2⟩ := (told_iff T).1 h
  have hl := text_len T h1 h2
  cases T with
  | nil => rfl
  | cons c T =>
    have hne : jn 59 ((c :: T).map sd) ≠ [] := fun e => sd_ne c (h2 c (by simp)) (List.append_eq_nil_iff.1 (show sd c ++ tl 59 (T.map sd) = [] from e)).1
    unfold prs
    rw [if_neg hne, if_neg (by omega), List.map_cons, sp_jn 59 _ _ (fun y hy hb => by
      rw [← List.map_cons] at hy
      obtain ⟨d, hd, rfl⟩ := List.mem_map.1 hy
      exact sd_byte (fun b => b ≠ 59) (by decide) (by decide) (by decide) d (h2 d hd) 59 hb rfl), ← List.map_cons, pts_sd _ _ h2, List.nil_append, if_pos h]
theorem prs_no (L : List UInt8) (h : ∀ T, ¬ (told T = true ∧ jn 59 (T.map sd) = L)) : prs L = ([], false) := by
  unfold prs
  split
  · rename_i h0
    exact absurd ⟨by decide, h0.symm⟩ (h [])
  · split
    · rfl
    · cases hp : pts [] (sp 59 [] L) with
      | mk r b =>
        rcases pts_inv _ _ _ _ hp with ⟨rfl, rfl⟩ | ⟨_, h2, T, hT, hP⟩
        · rfl
        · exfalso
          have e := jn_sp 59 L []
          rw [hP, List.nil_append] at e
          rw [List.nil_append] at hT
          rw [hT] at h2
          exact h T ⟨h2, e⟩
theorem impl_f (L : List UInt8) (hL : L.length ≤ 1048576) {k : Nat} (hk : 100 < k) : impl_ParseSends.f k (ba L) = some (prs L) := by
  by_cases h : ∃ T, told T = true ∧ jn 59 (T.map sd) = L
  · obtain ⟨T, h, rfl⟩ := h
    rw [prs_yes T h, impl_yes T h hk]
  · rw [prs_no L (fun T hT => h ⟨T, hT⟩), impl_no L hL (fun T hT => h ⟨T, hT⟩) hk]
theorem eqSendS_l0 (a : List S51) (hn : a.length ≤ 4611686018427387904) : ∀ (d i k : Nat), i + d = a.length → d < k → laws_eqSendS.l0 k a a (i : Int) = some true
  | 0, i, k, hi, hk => by
    obtain ⟨k, rfl⟩ : ∃ q, k = q + 1 := ⟨k - 1, by omega⟩
    simp only [laws_eqSendS.l0]
    rw [if_neg (by omega)]
  | d + 1, i, k, hi, hk => by
    obtain ⟨k, rfl⟩ : ∃ q, k = q + 1 := ⟨k - 1, by omega⟩
    have ih := eqSendS_l0 a hn d (i + 1) k (by omega) (by omega)
    have ha : i < a.length := by omega
    simp only [laws_eqSendS.l0, laws_eqSend.f]
    rw [if_pos (by omega), if_pos (by omega), if_pos (by omega), up64 ha hn]
    simpa using ih
theorem eqSendS_f (a : List S51) (hn : a.length ≤ 4611686018427387904) {k : Nat} (hk : a.length < k) : laws_eqSendS.f k a a = some true := by
  unfold laws_eqSendS.f
  rw [if_pos rfl]
  exact eqSendS_l0 a hn a.length 0 k (by omega) hk
/-- The numbers 1, 2, .. in the fields. -/
def mkS (n : Nat) : List S51 := (List.range n).map fun (j : Nat) => ⟨1 + 3 * (j : Int), 1 + 3 * (j : Int) + 1, 1 + 3 * (j : Int) + 2⟩
theorem mkS_len (n : Nat) : (mkS n).length = n := by simp [mkS]
theorem mkS_succ (n : Nat) : mkS (n + 1) = mkS n ++ [⟨1 + 3 * (n : Int), 1 + 3 * (n : Int) + 1, 1 + 3 * (n : Int) + 2⟩] := by simp [mkS, List.range_succ]
theorem mkS_rd {n i : Nat} (h : i < n) : rd_T51 (mkS n) (i : Int) = ⟨1 + 3 * (i : Int), 1 + 3 * (i : Int) + 1, 1 + 3 * (i : Int) + 2⟩ := by
  rw [rdSend1 (by rw [mkS_len]; exact h)]
  simp [mkS]
theorem markSS_l0 (l : List S51) (hn : l.length ≤ 1000000000) : ∀ (d i k : Nat), i + d = l.length → d < k → laws_markSendS.l0 k (mkS i ++ l.drop i) (1 + 3 * (i : Int)) (i : Int) = some (1 + 3 * (l.length : Int), mkS l.length)
  | 0, i, k, hi, hk => by
    obtain ⟨k, rfl⟩ : ∃ q, k = q + 1 := ⟨k - 1, by omega⟩
    have e : i = l.length := by omega
    subst e
    simp only [laws_markSendS.l0]
    rw [if_neg (by rw [List.length_append, mkS_len, List.length_drop]; omega), List.drop_eq_nil_of_le (by omega), List.append_nil]
  | d + 1, i, k, hi, hk => by
    obtain ⟨k, rfl⟩ : ∃ q, k = q + 1 := ⟨k - 1, by omega⟩
    have ha : i < l.length := by omega
    have ih := markSS_l0 l hn d (i + 1) k (by omega) (by omega)
    simp only [laws_markSendS.l0, Option.bind_some]
    rw [if_pos (by rw [List.length_append, mkS_len, List.length_drop]; omega), if_pos (by omega), up64 ha (by omega), w64 (x := 1 + 3 * (i : Int) + 1) (by omega) (by omega), w64 (x := 1 + 3 * (i : Int) + 1 + 1) (by omega) (by omega), w64 (x := 1 + 3 * (i : Int) + 1 + 1 + 1) (by omega) (by omega), Int.toNat_natCast]
    have hl : i < (mkS i ++ l.drop i).length := by rw [List.length_append, mkS_len, List.length_drop]; omega
    have he : ∀ v : S51, (mkS i ++ l.drop i).set i v = mkS i ++ v :: l.drop (i + 1) := by
      intro v
      rw [List.set_append_right _ _ (by rw [mkS_len]; omega), mkS_len, List.drop_eq_getElem_cons ha, show i - i = 0 by omega, List.set_cons_zero]
    have hr : ∀ v : S51, rd_T51 ((mkS i ++ l.drop i).set i v) (i : Int) = v := by
      intro v
      rw [rdSend1 (by rw [List.length_set]; exact hl), List.getElem_set_self]
    simp only [hr, List.set_set]
    rw [he, show 1 + 3 * (i : Int) + 1 + 1 + 1 = 1 + 3 * ((i + 1 : Nat) : Int) by omega, show 1 + 3 * (i : Int) + 1 + 1 = 1 + 3 * (i : Int) + 2 by omega]
    rw [mkS_succ, List.append_assoc, List.singleton_append] at ih
    exact ih
theorem markSS_f (l : List S51) (hn : l.length ≤ 1000000000) {k : Nat} (hk : l.length < k) : laws_markSendS.f k l 1 = some (1 + 3 * (l.length : Int), mkS l.length) := by
  have h := markSS_l0 l hn l.length 0 k (by omega) hk
  unfold laws_markSendS.f
  simpa [mkS] using h
theorem heldSS_l0 (n : Nat) (hn : n ≤ 1000000000) : ∀ (d i k : Nat), i + d = n → d < k → laws_heldSendS.l0 k (mkS n) (1 + 3 * (i : Int)) (i : Int) = some (1 + 3 * (n : Int))
  | 0, i, k, hi, hk => by
    obtain ⟨k, rfl⟩ : ∃ q, k = q + 1 := ⟨k - 1, by omega⟩
    have e : i = n := by omega
    subst e
    simp only [laws_heldSendS.l0]
    rw [if_neg (by rw [mkS_len]; omega)]
  | d + 1, i, k, hi, hk => by
    obtain ⟨k, rfl⟩ : ∃ q, k = q + 1 := ⟨k - 1, by omega⟩
    have ha : i < n := by omega
    have ih := heldSS_l0 n hn d (i + 1) k (by omega) (by omega)
    simp only [laws_heldSendS.l0]
    rw [if_pos (by rw [mkS_len]; omega), if_pos (by omega), mkS_rd ha, if_pos rfl, w64 (x := 1 + 3 * (i : Int) + 1) (by omega) (by omega), if_pos rfl, w64 (x := 1 + 3 * (i : Int) + 1 + 1) (by omega) (by omega), if_pos (by dsimp only; omega), w64 (x := 1 + 3 * (i : Int) + 1 + 1 + 1) (by omega) (by omega), up64 ha (by omega), show 1 + 3 * (i : Int) + 1 + 1 + 1 = 1 + 3 * ((i + 1 : Nat) : Int) by omega]
    exact ih
theorem heldSS_f (n : Nat) (hn : n ≤ 1000000000) {k : Nat} (hk : n < k) : laws_heldSendS.f k (mkS n) 1 = some (1 + 3 * (n : Int)) := by
  have h := heldSS_l0 n hn n 0 k (by omega) hk
  unfold laws_heldSendS.f
  simpa using h
theorem deSome_f (l : List S51) (hn : l.length ≤ 1000) {k : Nat} (hk : 1100 ≤ k) : spec_deSome.f k l = some (told l) := by
  unfold spec_deSome.f told
  by_cases h : l.length ≤ 40
  · have e := some_l0 l hn l.length 0 k (by omega) (by omega)
    rw [List.drop_zero] at e
    rw [if_neg (by omega), decide_eq_true h, Bool.true_and]
    exact e
  · rw [if_pos (by omega), decide_eq_false h, Bool.false_and]
theorem pt_two {t a b c d : List UInt8} (h1 : sp 62 [] t = [a, b]) (h2 : sp 64 [] b = [c, d]) : pt t = some ⟨rdv a, rdv c, rdv d⟩ := by
  unfold pt
  rw [h1]
  simp only
  rw [h2]
theorem pt_one {t : List UInt8} (h : (sp 62 [] t).length ≠ 2) : pt t = none := by
  unfold pt
  split
  · rename_i e
    rw [e] at h
    simp at h
  · rfl
theorem pt_mid {t a b : List UInt8} (h1 : sp 62 [] t = [a, b]) (h : (sp 64 [] b).length ≠ 2) : pt t = none := by
  unfold pt
  rw [h1]
  simp only
  split
  · rename_i e
    rw [e] at h
    simp at h
  · rfl
theorem two {α : Type} {l : List α} (h : l.length = 2) : ∃ a b, l = [a, b] := by
  match l, h with
  | [a, b], _ => exact ⟨a, b, rfl⟩
theorem spec_l0 (P : List (List UInt8)) (hP : ∀ y ∈ P, y.length ≤ 400) (hn : P.length ≤ 500) : ∀ (d i k : Nat) (out : List S51), i + d = P.length → 3000 + d ≤ k → out.length + d ≤ 1000 → spec_deParse.l0 k out (P.map ba) (P.length : Int) (i : Int) = some (pts out (P.drop i))
  | 0, i, k, out, hi, hk, ho => by
    obtain ⟨k, rfl⟩ : ∃ q, k = q + 1 := ⟨k - 1, by omega⟩
    simp only [spec_deParse.l0]
    rw [if_neg (by omega), deSome_f out (by omega) (by omega), Option.bind_some, List.drop_eq_nil_of_le (by omega)]
    simp only [pts]
    split <;> rfl
  | d + 1, i, k, out, hi, hk, ho => by
    obtain ⟨k, rfl⟩ : ∃ q, k = q + 1 := ⟨k - 1, by omega⟩
    have hlt : i < P.length := by omega
    have hp := hP _ (List.getElem_mem hlt)
    have h1 := l1Split_f 62 (P[i]'hlt) (by omega) (k := k) (by omega)
    rw [show ((62 : UInt8).toNat : Int) = 62 from rfl] at h1
    have z1 := sp_size 62 (P[i]'hlt) []
    rw [List.drop_eq_getElem_cons hlt]
    simp only [spec_deParse.l0, pts]
    rw [if_pos (by omega), if_pos (by omega), if_pos (by rw [List.length_map]; omega), rdOf_ba P i hlt, h1, Option.bind_some]
    by_cases e1 : (sp 62 [] (P[i]'hlt)).length = 2
    · obtain ⟨a, b, hab⟩ := two e1
      rw [hab] at z1
      have za := z1 a (by simp)
      have zb := z1 b (by simp)
      have h2 := l1Split_f 64 b (by simp at zb; omega) (k := k) (by simp at zb; omega)
      rw [show ((64 : UInt8).toNat : Int) = 64 from rfl] at h2
      have z2 := sp_size 64 b []
      rw [hab, if_pos (by simp), if_pos (by simp), show rdOf ByteArray.empty ([a, b].map ba) 1 = ba b from rfl, h2, Option.bind_some]
      by_cases e2 : (sp 64 [] b).length = 2
      · obtain ⟨u, v, huv⟩ := two e2
        rw [huv] at z2
        have zu := z2 u (by simp)
        have zv := z2 v (by simp)
        simp only [List.length_nil, Nat.zero_add] at za zb zu zv
        rw [huv, if_pos (by simp), if_pos (by simp), show rdOf ByteArray.empty ([a, b].map ba) 0 = ba a from rfl, l1Read_f a (by omega) (by omega), Option.bind_some, if_pos (by simp), show rdOf ByteArray.empty ([u, v].map ba) 0 = ba u from rfl, l1Read_f u (by omega) (by omega), Option.bind_some, if_pos (by simp), show rdOf ByteArray.empty ([u, v].map ba) 1 = ba v from rfl, l1Read_f v (by omega) (by omega), Option.bind_some, if_pos (by omega), up64 hlt (by omega), pt_two hab huv]
        exact spec_l0 P hP hn d (i + 1) k _ (by omega) (by omega) (by simp; omega)
      · rw [if_neg (by rw [List.length_map]; omega), pt_mid hab e2]
    · rw [if_neg (by rw [List.length_map]; omega), pt_one e1]
theorem spec_f (L : List UInt8) {k : Nat} (hk : 5000 < k) : spec_ParseSends.f k (ba L) = some (prs L) := by
  unfold spec_ParseSends.f spec_deParse.f prs
  rw [ba_size, ByteArray.toList_eq, ba_list]
  by_cases h0 : L = []
  · rw [if_pos h0, if_pos h0]
    rfl
  · rw [if_neg h0, if_neg h0]
    by_cases h : 400 < L.length
    · rw [if_pos (by omega), if_pos h]
      rfl
    · have hsp := l1Split_f 59 L (by omega) (k := k) (by omega)
      rw [show ((59 : UInt8).toNat : Int) = 59 from rfl] at hsp
      have hl := sp_len 59 L []
      have hz : ∀ y ∈ sp 59 [] L, y.length ≤ 400 := fun y hy => by have := sp_size 59 _ _ y hy; simp at this; omega
      have hb := spec_l0 (sp 59 [] L) hz (by omega) (sp 59 [] L).length 0 k [] (by omega) (by omega) (by simp; omega)
      rw [show ((0 : Nat) : Int) = 0 from rfl] at hb
      rw [if_neg (by omega), if_neg h, hsp, Option.bind_some, List.length_map, hb]
      rfl
theorem prs_len (L : List UInt8) : (prs L).1.length ≤ 40 := by
  by_cases h : ∃ T, told T = true ∧ jn 59 (T.map sd) = L
  · obtain ⟨T, h, rfl⟩ := h
    rw [prs_yes T h]
    exact ((told_iff T).1 h).1
  · rw [prs_no L (fun T hT => h ⟨T, hT⟩)]
    simp
theorem FnExactParseSends : ∀ (a0 : ByteArray), a0.size ≤ 140737488351232 → ∃ k, laws_FnExactParseSends.f k a0 = some true := by
  intro s _
  refine ⟨6000, ?_⟩
  unfold laws_FnExactParseSends.f
  by_cases h : 1048576 < s.size
  · rw [if_pos (by omega)]
  · rw [if_neg (by omega)]
    have hs := ba_of s
    have hz : s.data.toList.length = s.size := by rw [← ba_size, hs]
    generalize s.data.toList = L at hs hz
    subst hs
    have hlen := prs_len L
    have hsp : ∀ k, 5500 ≤ k → spec_ParseSends.f k (ba L) = some (prs L) := fun k hk => spec_f L (by omega)
    have him : ∀ k, 5500 ≤ k → impl_ParseSends.f k (ba L) = some (prs L) := fun k hk => impl_f L (by omega) (by omega)
    generalize prs L = o at hlen hsp him
    obtain ⟨o, b⟩ := o
    dsimp only at hlen
    have q2 : ∀ k, 5500 ≤ k → laws_eqSendS.f k o o = some true := fun k hk => eqSendS_f _ (by omega) (by omega)
    have m2 : ∀ k, 5500 ≤ k → laws_markSendS.f k o 1 = some (1 + 3 * (o.length : Int), mkS o.length) := fun k hk => markSS_f _ (by omega) (by omega)
    have d2 : ∀ k, 5500 ≤ k → laws_heldSendS.f k (mkS o.length) 1 = some (1 + 3 * (o.length : Int)) := fun k hk => heldSS_f _ (by omega) (by omega)
    have n2 : ¬ (1 + 3 * (o.length : Int) < 0) := by omega
    simp (disch := omega) only [hsp, him, q2, Option.bind_some, if_true, bne_self_eq_false]
    rw [laws_FnExactParseSends.j0.eq_def]
    simp (disch := omega) only [hsp, him, q2, m2, d2, n2, Option.bind_some, if_true, if_false, bne_self_eq_false, Bool.false_eq_true]
    rw [laws_FnExactParseSends.j1.eq_def]
    simp (disch := omega) only [d2, n2, Option.bind_some, if_true, if_false, Bool.false_eq_true]

end Go.Proofs.YtbghdbpaihkcjabDoor.Pure
