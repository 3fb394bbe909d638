/- For every list of sends the program's SendsText and the reference's agree; no conditions. -/
import Derived.Test.YtbghdbpaihkcjabDoorPFnExactSendsTextx4
set_option linter.unusedSimpArgs false
set_option linter.unusedVariables false
namespace Go.Proofs.YtbghdbpaihkcjabDoor.Pure
open Go.RowKit Go.Proofs.YtbghdbpaihkcjabDoor.PFnExactSendsText Go.Proofs.YtbghdbpaihkcjabDoorW.PrintWords Go.Proofs.YtbghdbpaihkcjabDoorW.PrintLast Go.Proofs.YtbghdbpaihkcjabDoorW.PrintMore

theorem w64 {x : Int} (h0 : -9223372036854775808 ≤ x) (h1 : x ≤ 9223372036854775807) : wrap64 x = x := by unfold wrap64; omega
theorem up64 {i n : Nat} (h : i < n) (hn : n ≤ 4611686018427387904) : wrap64 ((i : Int) + 1) = ((i + 1 : Nat) : Int) := by rw [w64 (by omega) (by omega)]; omega
theorem rd_lt {xs : List Int} {i : Nat} (h : i < xs.length) : rd xs (i : Int) = xs[i] := by unfold rd; simp [List.getD_eq_getElem?_getD, h]
/-- An element of the law's own type, as the program's. -/
def cvSend (x : S53) : S51 := ⟨x.f0, x.f1, x.f2⟩
theorem rdSend0 {xs : List S53} {i : Nat} (h : i < xs.length) : rd_T53 xs (i : Int) = xs[i] := by unfold rd_T53; simp [List.getD_eq_getElem?_getD, h]
theorem rdSend1 {xs : List S51} {i : Nat} (h : i < xs.length) : rd_T51 xs (i : Int) = xs[i] := by unfold rd_T51; simp [List.getD_eq_getElem?_getD, h]
theorem toSendS_l0 (a : List S53) (hn : a.length ≤ 4611686018427387904) : ∀ (d i k : Nat), i + d = a.length → d < k → laws_toSendS.l0 k a ((a.take i).map cvSend ++ List.replicate d z51) (i : Int) = some (a.map cvSend)
  | 0, i, k, hi, hk => by
    obtain ⟨k, rfl⟩ : ∃ q, k = q + 1 := ⟨k - 1, by omega⟩
    simp only [laws_toSendS.l0]
    rw [if_neg (by omega), List.take_of_length_le (by omega)]
    simp
  | d + 1, i, k, hi, hk => by
    obtain ⟨k, rfl⟩ : ∃ q, k = q + 1 := ⟨k - 1, by omega⟩
    have ih := toSendS_l0 a hn d (i + 1) k (by omega) (by omega)
    have ha : i < a.length := by omega
    simp only [laws_toSendS.l0, laws_toSend.f, Option.bind_some]
    rw [if_pos (by omega), if_pos (by omega), if_pos (by simp; omega), up64 ha hn, rdSend0 ha]
    have he : ((a.take i).map cvSend ++ List.replicate (d + 1) z51).set ((i : Nat) : Int).toNat (cvSend a[i]) = (a.take (i + 1)).map cvSend ++ List.replicate d z51 := by
      rw [List.set_append_right _ _ (by simp; omega), List.replicate_succ]
      have e : ((i : Nat) : Int).toNat - ((a.take i).map cvSend).length = 0 := by simp; omega
      rw [e, List.set_cons_zero, List.take_succ_eq_append_getElem ha]
      simp only [List.append_assoc, List.singleton_append, List.map_append, List.map_cons, List.map_nil]
    exact (congrArg (fun z => laws_toSendS.l0 k a z ((i + 1 : Nat) : Int)) he).trans ih
theorem toSendS_f (a : List S53) (hn : a.length ≤ 1048576) {k : Nat} (hk : a.length < k) : laws_toSendS.f k a = some (a.map cvSend) := by
  unfold laws_toSendS.f
  rw [if_pos (by omega), if_pos (by omega)]
  exact toSendS_l0 a (by omega) a.length 0 k (by omega) hk
theorem eqSendS_l0 (a : List S51) (hn : a.length ≤ 4611686018427387904) : ∀ (d i k : Nat), i + d = a.length → d < k → laws_eqSendS.l0 k a a (i : Int) = some true
  | 0, i, k, hi, hk => by
    obtain ⟨k, rfl⟩ : ∃ q, k = q + 1 := ⟨k - 1, by omega⟩
    simp only [laws_eqSendS.l0]
    rw [if_neg (by omega)]
  | d + 1, i, k, hi, hk => by
    obtain ⟨k, rfl⟩ : ∃ q, k = q + 1 := ⟨k - 1, by omega⟩
    have ih := eqSendS_l0 a hn d (i + 1) k (by omega) (by omega)
    have ha : i < a.length := by omega
    simp only [laws_eqSendS.l0, laws_eqSend.f]
    rw [if_pos (by omega), if_pos (by omega), if_pos (by omega), up64 ha hn]
    simpa using ih
theorem eqSendS_f (a : List S51) (hn : a.length ≤ 4611686018427387904) {k : Nat} (hk : a.length < k) : laws_eqSendS.f k a a = some true := by
  unfold laws_eqSendS.f
  rw [if_pos rfl]
  exact eqSendS_l0 a hn a.length 0 k (by omega) hk
theorem szSendS_f (a : List S53) (hn : a.length ≤ 9223372036854775807) : laws_szSendS.f a 1048576 = some (if a.length ≤ 1048576 then 1048576 - (a.length : Int) else -1) := by
  unfold laws_szSendS.f
  rw [w64 (by omega) (by omega)]
  by_cases h : a.length ≤ 1048576
  · rw [if_neg (by omega), if_pos h]
  · rw [if_pos (by omega), if_neg h]
def ba (L : List UInt8) : ByteArray := ⟨L.toArray⟩
theorem ba_app (L M : List UInt8) : ba L ++ ba M = ba (L ++ M) := by
  apply ByteArray.ext
  apply Array.toList_inj.1
  simp [ba, ByteArray.data_append]
theorem ba_size (L : List UInt8) : (ba L).size = L.length := by simp [ba, ByteArray.size]
theorem ba_list (L : List UInt8) : (ba L).data.toList = L := by simp [ba]
/-- A digit. -/
def dg (x : Int) : List UInt8 := [UInt8.ofNat (48 + x.toNat)]
/-- Texts, each behind a sign. -/
def tl (s : UInt8) (xs : List (List UInt8)) : List UInt8 := (xs.map (fun y => s :: y)).flatten
/-- Texts with a sign between them. -/
def jn (s : UInt8) : List (List UInt8) → List UInt8
  | [] => []
  | x :: r => x ++ tl s r
theorem join_jn (s : UInt8) : ∀ xs : List (List UInt8), Lib.join xs [s] = jn s xs
  | [] => rfl
  | [x] => by simp [Lib.join, jn, tl, List.intercalate, List.intersperse]
  | x :: y :: r => by
    have ih := join_jn s (y :: r)
    have e : Lib.join (x :: y :: r) [s] = x ++ ([s] ++ Lib.join (y :: r) [s]) := by
      simp [Lib.join, List.intercalate, List.intersperse]
    rw [e, ih]
    simp [jn, tl]
theorem tl_len (s : UInt8) (B : Nat) : ∀ xs : List (List UInt8), (∀ y ∈ xs, y.length ≤ B) → (tl s xs).length ≤ (B + 1) * xs.length
  | [], _ => by simp [tl]
  | x :: r, h => by
    have h1 := h x (by simp)
    have h2 := tl_len s B r (fun y hy => h y (by simp [hy]))
    have e : (tl s (x :: r)).length = 1 + x.length + (tl s r).length := by simp [tl]; omega
    rw [e, List.length_cons, Nat.mul_add]
    omega
theorem jn_len (s : UInt8) (B : Nat) (xs : List (List UInt8)) (h : ∀ y ∈ xs, y.length ≤ B) : (jn s xs).length ≤ (B + 1) * xs.length := by
  cases xs with
  | nil => simp [jn]
  | cons x r =>
    have h1 := h x (by simp)
    have h2 := tl_len s B r (fun y hy => h y (by simp [hy]))
    simp only [jn, List.length_append, List.length_cons, Nat.mul_add]
    omega
theorem num_f (x : Int) (h0 : 0 ≤ x) (h1 : x ≤ 9) {k : Nat} (hk : 0 < k) : spec_l1Num.f k x = some (ba (dg x)) := by
  obtain ⟨k, rfl⟩ : ∃ q, k = q + 1 := ⟨k - 1, by omega⟩
  unfold spec_l1Num.f
  rw [if_pos (by omega)]
  have e : wrap64 (48 + x) % 256 = 48 + x := by rw [w64 (by omega) (by omega)]; omega
  rw [e]
  congr 1
  apply ByteArray.ext
  apply Array.toList_inj.1
  simp only [strOfNums, ba, dg, List.map_cons, List.map_nil]
  rw [show (48 + x).toNat = 48 + x.toNat by omega]
theorem dec_small (n : Nat) (h : n < 10) : Lib.decDigits n = [UInt8.ofNat (48 + n)] := by
  rw [Lib.decDigits, dif_pos h]
theorem itoa_f (x : Int) (h0 : 0 ≤ x) (h1 : x ≤ 9) : strconv_Itoa.f x = some (ba (dg x)) := by
  unfold strconv_Itoa.f
  rw [if_pos (by omega), dec_small _ (by omega)]
  rfl
theorem join_f (xs : List (List UInt8)) (s : UInt8) (hn : xs.length ≤ 1000) (hl : ∀ y ∈ xs, y.length ≤ 1000) : strings_Join.f (xs.map ba) (ba [s]) = some (ba (jn s xs), xs.map ba) := by
  have e : strings_Join.p_join (xs.map ba) (ba [s]) = ba (jn s xs) := by
    unfold strings_Join.p_join
    rw [ba_list, List.map_map, show ((fun x : ByteArray => x.data.toList) ∘ ba) = id by funext L; exact ba_list L, List.map_id, join_jn]
    rfl
  have hj := jn_len s 1000 xs hl
  have hm : 1001 * xs.length ≤ 1001 * 1000 := Nat.mul_le_mul_left _ hn
  unfold strings_Join.f
  rw [e, if_pos ⟨by rw [List.length_map]; omega, by rw [ba_size]; omega⟩]
theorem dec_lt10 (n : Nat) (h : n < 10) : Lib.decDigits n = [UInt8.ofNat (48 + n)] := by rw [Lib.decDigits, dif_pos h]
theorem dec_lt100 (n : Nat) (h0 : 10 ≤ n) (h : n < 100) : Lib.decDigits n = [UInt8.ofNat (48 + n / 10), UInt8.ofNat (48 + n % 10)] := by
  rw [Lib.decDigits, dif_neg (by omega), dec_lt10 _ (by omega)]
  rfl
theorem dec_len (n : Nat) (h : n < 100) : (Lib.decDigits n).length ≤ 2 := by
  by_cases h0 : n < 10
  · rw [dec_lt10 n h0]; simp
  · rw [dec_lt100 n (by omega) h]; simp
theorem num2_f (x : Int) (h0 : 0 ≤ x) (h1 : x < 100) {k : Nat} (hk : 1 < k) : spec_l1Num.f k x = some (ba (Lib.decDigits x.toNat)) := by
  by_cases h10 : x < 10
  · rw [num_f x h0 (by omega) (by omega), dec_lt10 _ (by omega)]
    rfl
  · obtain ⟨k, rfl⟩ : ∃ q, k = q + 1 := ⟨k - 1, by omega⟩
    have e1 : wrap64 (Int.tdiv x 10) = x / 10 := by rw [Int.tdiv_eq_ediv_of_nonneg h0, w64 (by omega) (by omega)]
    have e2 : wrap64 (48 + Int.tmod x 10) % 256 = 48 + x % 10 := by rw [Int.tmod_eq_emod_of_nonneg h0, w64 (by omega) (by omega)]; omega
    unfold spec_l1Num.f
    rw [if_neg h10, e1, e2, num_f (x / 10) (by omega) (by omega) (by omega), Option.bind_some, Option.bind_some]
    have e3 : strOfNums [48 + x % 10] = ba [UInt8.ofNat (48 + x.toNat % 10)] := by
      apply ByteArray.ext
      apply Array.toList_inj.1
      simp only [strOfNums, ba, List.map_cons, List.map_nil]
      rw [show (48 + x % 10).toNat = 48 + x.toNat % 10 by omega]
    rw [e3, if_pos (by rw [ba_size, ba_size]; simp [dg]), ba_app, dec_lt100 _ (by omega) (by omega)]
    unfold dg
    rw [show (x / 10).toNat = x.toNat / 10 by omega]
    rfl
theorem itoa2_f (x : Int) (h0 : 0 ≤ x) (h1 : x < 100) : strconv_Itoa.f x = some (ba (Lib.decDigits x.toNat)) := by
  unfold strconv_Itoa.f
  rw [if_pos (by omega)]
  rfl
/-- The text of a send. -/
def sd (c : S51) : List UInt8 := Lib.decDigits c.f0.toNat ++ 62 :: (Lib.decDigits c.f1.toNat ++ 64 :: Lib.decDigits c.f2.toNat)
/-- Can its numbers be told? -/
def tld (c : S51) : Prop := (0 ≤ c.f0 ∧ c.f0 ≤ 60) ∧ (0 ≤ c.f1 ∧ c.f1 ≤ 60) ∧ (0 ≤ c.f2 ∧ c.f2 ≤ 60)
theorem sd_len (c : S51) (h : tld c) : (sd c).length ≤ 8 := by
  obtain ⟨h1, h2, h3⟩ := h
  have l1 := dec_len c.f0.toNat (by omega)
  have l2 := dec_len c.f1.toNat (by omega)
  have l3 := dec_len c.f2.toNat (by omega)
  simp only [sd, List.length_append, List.length_cons]
  omega
theorem p_tld (c : S51) : impl_areTold_1.p c = false ↔ tld c := by
  unfold impl_areTold_1.p impl_areWithin_1.in_ tld
  simp only [List.any_cons, List.any_nil, Bool.or_false, Bool.or_eq_false_iff, Bool.not_eq_false', Bool.and_eq_true, decide_eq_true_eq]
theorem sum_sd (c : S51) : (ba (Lib.decDigits c.f0.toNat) ++ (⟨#[62]⟩ : ByteArray)) ++ ba (Lib.decDigits c.f1.toNat) ++ (⟨#[64]⟩ : ByteArray) ++ ba (Lib.decDigits c.f2.toNat) = ba (sd c) := by
  rw [show (⟨#[62]⟩ : ByteArray) = ba [62] from rfl, show (⟨#[64]⟩ : ByteArray) = ba [64] from rfl, ba_app, ba_app, ba_app, ba_app]
  congr 1
  simp [sd]
theorem sends_l0 (l : List S51) (hn : l.length ≤ 40) (hl : ∀ c ∈ l, tld c) : ∀ (d i k : Nat), i + d = l.length → d + 5 < k → impl_sendsText.l0 k (((l.map sd).take i).map ba) l (l.length : Int) (i : Int) = some (ba (jn 59 (l.map sd)))
  | 0, i, k, hi, hk => by
    obtain ⟨k, rfl⟩ : ∃ q, k = q + 1 := ⟨k - 1, by omega⟩
    simp only [impl_sendsText.l0]
    rw [if_neg (by omega), List.take_of_length_le (by simp; omega)]
    have h := join_f (l.map sd) 59 (by simp; omega) (fun y hy => by
      obtain ⟨c, hc, rfl⟩ := List.mem_map.1 hy
      have := sd_len c (hl c hc)
      omega)
    rw [show (⟨#[59]⟩ : ByteArray) = ba [59] from rfl, h]
    rfl
  | d + 1, i, k, hi, hk => by
    obtain ⟨k, rfl⟩ : ∃ q, k = q + 1 := ⟨k - 1, by omega⟩
    have ha : i < l.length := by omega
    obtain ⟨h1, h2, h3⟩ := hl _ (List.getElem_mem ha)
    have l1 := dec_len l[i].f0.toNat (by omega)
    have l2 := dec_len l[i].f1.toNat (by omega)
    have l3 := dec_len l[i].f2.toNat (by omega)
    have ih := sends_l0 l hn hl d (i + 1) k (by omega) (by omega)
    have ha' : i < (l.map sd).length := by rw [List.length_map]; exact ha
    rw [List.take_succ_eq_append_getElem ha', List.map_append, List.getElem_map] at ih
    simp only [impl_sendsText.l0]
    rw [if_pos (by omega), if_pos (by omega), if_pos (by omega), rdSend1 ha, itoa2_f _ h1.1 (by omega), Option.bind_some, if_pos (by rw [ba_size]; omega), itoa2_f _ h2.1 (by omega), Option.bind_some, if_pos (by rw [ByteArray.size_append, ba_size, ba_size]; show _ + 1 + _ ≤ _; omega), if_pos (by rw [ByteArray.size_append, ByteArray.size_append, ba_size, ba_size]; show _ + 1 + _ + 1 ≤ _; omega), itoa2_f _ h3.1 (by omega), Option.bind_some, if_pos (by rw [ByteArray.size_append, ByteArray.size_append, ByteArray.size_append, ba_size, ba_size, ba_size]; show _ + 1 + _ + 1 + _ ≤ _; omega), if_pos (by simp; omega), up64 ha (by omega), sum_sd]
    exact ih
theorem deText_l0 (l : List S51) (hn : l.length ≤ 40) (hl : ∀ c ∈ l, tld c) : ∀ (d i k : Nat) (L : List UInt8), i + d = l.length → d + 10 < k → L.length ≤ 9 * i → spec_deText.l0 k (ba L) l (l.length : Int) (i : Int) = some (ba (L ++ (if i = 0 then jn 59 (l.map sd) else tl 59 ((l.map sd).drop i))))
  | 0, i, k, L, hi, hk, hL => by
    obtain ⟨k, rfl⟩ : ∃ q, k = q + 1 := ⟨k - 1, by omega⟩
    simp only [spec_deText.l0]
    rw [if_neg (by omega)]
    by_cases h : i = 0
    · have : l = [] := List.length_eq_zero_iff.1 (by omega)
      subst this
      rw [if_pos h]
      simp [jn]
    · rw [if_neg h, List.drop_eq_nil_of_le (by simp; omega)]
      simp [tl]
  | d + 1, i, k, L, hi, hk, hL => by
    obtain ⟨k, rfl⟩ : ∃ q, k = q + 1 := ⟨k - 1, by omega⟩
    have ha : i < l.length := by omega
    have hsl := sd_len _ (hl _ (List.getElem_mem ha))
    obtain ⟨h1, h2, h3⟩ := hl _ (List.getElem_mem ha)
    have l1 := dec_len l[i].f0.toNat (by omega)
    have l2 := dec_len l[i].f1.toNat (by omega)
    have l3 := dec_len l[i].f2.toNat (by omega)
    have ha' : i < (l.map sd).length := by rw [List.length_map]; exact ha
    have s1 : (ba (Lib.decDigits l[i].f0.toNat) ++ (⟨#[62]⟩ : ByteArray)).size + (ba (Lib.decDigits l[i].f1.toNat)).size ≤ 9223372036854775807 := by rw [ByteArray.size_append, ba_size, ba_size]; show _ + 1 + _ ≤ _; omega
    have s2 : (ba (Lib.decDigits l[i].f0.toNat) ++ (⟨#[62]⟩ : ByteArray) ++ ba (Lib.decDigits l[i].f1.toNat)).size + 1 ≤ 9223372036854775807 := by rw [ByteArray.size_append, ByteArray.size_append, ba_size, ba_size]; show _ + 1 + _ + 1 ≤ _; omega
    have s3 : (ba (Lib.decDigits l[i].f0.toNat) ++ (⟨#[62]⟩ : ByteArray) ++ ba (Lib.decDigits l[i].f1.toNat) ++ (⟨#[64]⟩ : ByteArray)).size + (ba (Lib.decDigits l[i].f2.toNat)).size ≤ 9223372036854775807 := by rw [ByteArray.size_append, ByteArray.size_append, ByteArray.size_append, ba_size, ba_size, ba_size]; show _ + 1 + _ + 1 + _ ≤ _; omega
    simp only [spec_deText.l0]
    rw [if_pos (by omega), if_pos (by omega), if_pos (by omega), rdSend1 ha]
    by_cases h0 : i = 0
    · rw [if_neg (by omega), num2_f _ h1.1 (by omega) (by omega), Option.bind_some, if_pos (by rw [ba_size]; omega), num2_f _ h2.1 (by omega) (by omega), Option.bind_some, if_pos s1, if_pos s2, num2_f _ h3.1 (by omega) (by omega), Option.bind_some, if_pos s3, sum_sd, if_pos (by rw [ba_size, ba_size]; omega), ba_app, up64 ha (by omega), deText_l0 l hn hl d (i + 1) k _ (by omega) (by omega) (by simp; omega), if_neg (by omega), if_pos h0, List.append_assoc]
      subst h0
      congr 3
      cases l with
      | nil => simp at ha
      | cons r t => simp [jn]
    · have e2 : ba L ++ (⟨#[59]⟩ : ByteArray) = ba (L ++ [59]) := by rw [show (⟨#[59]⟩ : ByteArray) = ba [59] from rfl, ba_app]
      rw [if_pos (by omega), if_pos (by rw [ba_size]; omega), num2_f _ h1.1 (by omega) (by omega), Option.bind_some, if_pos (by rw [ba_size]; omega), num2_f _ h2.1 (by omega) (by omega), Option.bind_some, if_pos s1, if_pos s2, num2_f _ h3.1 (by omega) (by omega), Option.bind_some, if_pos s3, sum_sd, e2, if_pos (by rw [ba_size, ba_size]; simp; omega), ba_app, up64 ha (by omega), deText_l0 l hn hl d (i + 1) k _ (by omega) (by omega) (by simp; omega), if_neg (by omega), if_neg h0, List.drop_eq_getElem_cons ha', List.getElem_map]
      congr 2
      simp [tl]
theorem all3_l0 (x : List Int) (hx : x.length ≤ 100) : ∀ (d i k : Nat), i + d = x.length → d < k → spec_l1All.l0 k 0 60 x (x.length : Int) (i : Int) = some ((x.drop i).all fun y => decide (0 ≤ y) && decide (y ≤ 60))
  | 0, i, k, hi, hk => by
    obtain ⟨k, rfl⟩ : ∃ q, k = q + 1 := ⟨k - 1, by omega⟩
    simp only [spec_l1All.l0]
    rw [if_neg (by omega), List.drop_eq_nil_of_le (by omega)]
    rfl
  | d + 1, i, k, hi, hk => by
    obtain ⟨k, rfl⟩ : ∃ q, k = q + 1 := ⟨k - 1, by omega⟩
    have ha : i < x.length := by omega
    have ih := all3_l0 x hx d (i + 1) k (by omega) (by omega)
    have ei : spec_l1In.f x[i] 0 60 = some (decide (0 ≤ x[i]) && decide (x[i] ≤ 60)) := by
      unfold spec_l1In.f
      by_cases h : x[i] ≥ 0
      · rw [if_pos h]; simp [show 0 ≤ x[i] from h]
      · rw [if_neg h]; simp [show ¬ 0 ≤ x[i] from h]
    simp only [spec_l1All.l0]
    rw [if_pos (by omega), if_pos (by omega), if_pos (by omega), rd_lt ha, ei, Option.bind_some, up64 ha (by omega), ih, List.drop_eq_getElem_cons ha, List.all_cons]
    cases (decide (0 ≤ x[i]) && decide (x[i] ≤ 60)) with
    | true => rw [if_pos rfl, Bool.true_and]
    | false => rw [if_neg (by decide), Bool.false_and]
theorem some_l0 (l : List S51) (hn : l.length ≤ 1000) : ∀ (d i k : Nat), i + d = l.length → d + 10 < k → spec_deSome.l0 k l (l.length : Int) (i : Int) = some ((l.drop i).all fun c => !impl_areTold_1.p c)
  | 0, i, k, hi, hk => by
    obtain ⟨k, rfl⟩ : ∃ q, k = q + 1 := ⟨k - 1, by omega⟩
    simp only [spec_deSome.l0]
    rw [if_neg (by omega), List.drop_eq_nil_of_le (by omega)]
    rfl
  | d + 1, i, k, hi, hk => by
    obtain ⟨k, rfl⟩ : ∃ q, k = q + 1 := ⟨k - 1, by omega⟩
    have ha : i < l.length := by omega
    have ih := some_l0 l hn d (i + 1) k (by omega) (by omega)
    have e3 := all3_l0 [l[i].f0, l[i].f1, l[i].f2] (by simp) 3 0 k (by simp) (by omega)
    have ep : ([l[i].f0, l[i].f1, l[i].f2].all fun y => decide (0 ≤ y) && decide (y ≤ 60)) = !impl_areTold_1.p l[i] := by
      unfold impl_areTold_1.p impl_areWithin_1.in_
      simp
    rw [List.drop_zero, ep] at e3
    simp only [spec_deSome.l0, spec_l1All.f]
    rw [if_pos (by omega), if_pos (by omega), if_pos (by omega), rdSend1 ha]
    rw [show ((0 : Nat) : Int) = 0 from rfl] at e3
    rw [e3, Option.bind_some, up64 ha (by omega), ih, List.drop_eq_getElem_cons ha, List.all_cons]
    cases (!impl_areTold_1.p l[i]) with
    | true => rw [if_pos rfl, Bool.true_and]
    | false => rw [if_neg (by decide), Bool.false_and]
theorem not_anyL {α : Type} (p : α → Bool) (l : List α) : (!l.any p) = l.all fun c => !p c := by
  induction l with
  | nil => rfl
  | cons c t ih => rw [List.any_cons, List.all_cons, Bool.not_or, ih]
theorem SendsText_both (l : List S51) (hl : l.length ≤ 1048576) : ∃ r, (∀ k, 1100000 ≤ k → spec_SendsText.f k l = some r) ∧ (∀ k, 1100000 ≤ k → impl_SendsText.f k l = some r) := by
  by_cases h40 : l.length ≤ 40
  · have e1 : ∀ k, 1100000 ≤ k → spec_deSome.f k l = some (l.all fun c => !impl_areTold_1.p c) := fun k hk => by
      unfold spec_deSome.f
      have h := some_l0 l (by omega) l.length 0 k (by omega) (by omega)
      rw [List.drop_zero] at h
      rw [if_neg (by omega)]
      exact h
    have e2 : impl_areTold.f l = some (l.all fun c => !impl_areTold_1.p c) := by
      unfold impl_areTold.f impl_areTold_1.f
      rw [if_pos (by omega), Option.bind_some]
      rw [not_anyL]
    cases hq : (l.all fun c => !impl_areTold_1.p c) with
    | false =>
      refine ⟨((⟨#[]⟩ : ByteArray), false), fun k hk => ?_, fun k hk => ?_⟩
      · unfold spec_SendsText.f
        rw [e1 k hk, hq, Option.bind_some, if_neg (by decide)]
      · unfold impl_SendsText.f
        rw [e2, hq, Option.bind_some, if_neg (by decide)]
    | true =>
      have hall : ∀ c ∈ l, tld c := fun c hc => by
        have := List.all_eq_true.1 hq c hc
        exact (p_tld c).1 (by simpa using this)
      refine ⟨(ba (jn 59 (l.map sd)), true), fun k hk => ?_, fun k hk => ?_⟩
      · unfold spec_SendsText.f spec_deText.f
        have h := deText_l0 l h40 hall l.length 0 k [] (by omega) (by omega) (by simp)
        rw [if_pos rfl, List.nil_append] at h
        rw [e1 k hk, hq, Option.bind_some, if_pos rfl]
        exact (congrArg (fun o => Option.bind o fun t => some (t, true)) h)
      · unfold impl_SendsText.f impl_sendsText.f
        have h := sends_l0 l h40 hall l.length 0 k (by omega) (by omega)
        rw [e2, hq, Option.bind_some, if_pos rfl]
        exact (congrArg (fun o => Option.bind o fun t => some (t, true)) h)
  · refine ⟨((⟨#[]⟩ : ByteArray), false), fun k hk => ?_, fun k hk => ?_⟩
    · unfold spec_SendsText.f spec_deSome.f
      rw [if_pos (by omega), Option.bind_some, if_neg (by decide)]
    · unfold impl_SendsText.f impl_areTold.f
      rw [if_neg (by omega), Option.bind_some, if_neg (by decide)]
theorem FnExactSendsText : ∀ (l0 : List (S53)), l0.length ≤ maxLen → (∀ x ∈ l0, (fun x => (Lit.int .i64 x.f0).wf = true ∧ (Lit.int .i64 x.f1).wf = true ∧ (fun n => (Lit.int .i64 n).wf = true) x.f2) x) → ∃ k, laws_FnExactSendsText.f k l0 = some true := by
  intro l hm _
  refine ⟨2000000, ?_⟩
  unfold laws_FnExactSendsText.f
  rw [szSendS_f l (by unfold maxLen at hm; omega)]
  simp only [Option.bind_some]
  by_cases h : l.length ≤ 1048576
  · obtain ⟨r, hs, hi⟩ := SendsText_both (l.map cvSend) (by simpa using h)
    have t1 : ∀ k, 1100000 ≤ k → laws_toSendS.f k l = some (l.map cvSend) := fun k hk => toSendS_f l h (by omega)
    have q1 : ∀ k, 1100000 ≤ k → laws_eqSendS.f k (l.map cvSend) (l.map cvSend) = some true := fun k hk => eqSendS_f _ (by simp; omega) (by simp; omega)
    rw [if_pos h, if_neg (by omega)]
    simp (disch := omega) only [t1, hs, hi, q1, Option.bind_some, if_true, bne_self_eq_false, Bool.false_eq_true, if_false]
    rw [laws_FnExactSendsText.j0.eq_def]
    simp (disch := omega) only [t1, q1, Option.bind_some, if_true, Bool.false_eq_true, if_false]
  · rw [if_neg h]
    simp

end Go.Proofs.YtbghdbpaihkcjabDoor.Pure
