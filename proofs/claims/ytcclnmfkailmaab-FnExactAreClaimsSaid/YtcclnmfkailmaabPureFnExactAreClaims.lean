/- For every number of friends and every list of claims the program's AreClaims and the reference's agree; no conditions. -/
import Derived.Test.YtcclnmfkailmaabPFnExactAreClaimsx2
set_option linter.unusedSimpArgs false
set_option linter.unusedVariables false
namespace Go.Proofs.Ytcclnmfkailmaab.Pure
open Go.RowKit Go.Proofs.Ytcclnmfkailmaab.PFnExactAreClaims Go.Proofs.YtcclnmfkailmaabW.PrintWords Go.Proofs.YtcclnmfkailmaabW.PrintLast Go.Proofs.YtcclnmfkailmaabW.PrintMore

theorem w64 {x : Int} (h0 : -9223372036854775808 ≤ x) (h1 : x ≤ 9223372036854775807) : wrap64 x = x := by unfold wrap64; omega
theorem up64 {i n : Nat} (h : i < n) (hn : n ≤ 4611686018427387904) : wrap64 ((i : Int) + 1) = ((i + 1 : Nat) : Int) := by rw [w64 (by omega) (by omega)]; omega
theorem rd_lt {xs : List Int} {i : Nat} (h : i < xs.length) : rd xs (i : Int) = xs[i] := by unfold rd; simp [List.getD_eq_getElem?_getD, h]
/-- An element of the law's own type, as the program's. -/
def cvClaim (x : S53) : S51 := ⟨x.f0, x.f1, x.f2⟩
theorem rdClaim0 {xs : List S53} {i : Nat} (h : i < xs.length) : rd_T53 xs (i : Int) = xs[i] := by unfold rd_T53; simp [List.getD_eq_getElem?_getD, h]
theorem rdClaim1 {xs : List S51} {i : Nat} (h : i < xs.length) : rd_T51 xs (i : Int) = xs[i] := by unfold rd_T51; simp [List.getD_eq_getElem?_getD, h]
theorem toClaimS_l0 (a : List S53) (hn : a.length ≤ 4611686018427387904) : ∀ (d i k : Nat), i + d = a.length → d < k → laws_toClaimS.l0 k a ((a.take i).map cvClaim ++ List.replicate d z51) (i : Int) = some (a.map cvClaim)
  | 0, i, k, hi, hk => by
    obtain ⟨k, rfl⟩ : ∃ q, k = q + 1 := ⟨k - 1, by omega⟩
    simp only [laws_toClaimS.l0]
    rw [if_neg (by omega), List.take_of_length_le (by omega)]
    simp
  | d + 1, i, k, hi, hk => by
    obtain ⟨k, rfl⟩ : ∃ q, k = q + 1 := ⟨k - 1, by omega⟩
    have ih := toClaimS_l0 a hn d (i + 1) k (by omega) (by omega)
    have ha : i < a.length := by omega
    simp only [laws_toClaimS.l0, laws_toClaim.f, Option.bind_some]
    rw [if_pos (by omega), if_pos (by omega), if_pos (by simp; omega), up64 ha hn, rdClaim0 ha]
    have he : ((a.take i).map cvClaim ++ List.replicate (d + 1) z51).set ((i : Nat) : Int).toNat (cvClaim a[i]) = (a.take (i + 1)).map cvClaim ++ List.replicate d z51 := by
      rw [List.set_append_right _ _ (by simp; omega), List.replicate_succ]
      have e : ((i : Nat) : Int).toNat - ((a.take i).map cvClaim).length = 0 := by simp; omega
      rw [e, List.set_cons_zero, List.take_succ_eq_append_getElem ha]
      simp only [List.append_assoc, List.singleton_append, List.map_append, List.map_cons, List.map_nil]
    exact (congrArg (fun z => laws_toClaimS.l0 k a z ((i + 1 : Nat) : Int)) he).trans ih
theorem toClaimS_f (a : List S53) (hn : a.length ≤ 1048576) {k : Nat} (hk : a.length < k) : laws_toClaimS.f k a = some (a.map cvClaim) := by
  unfold laws_toClaimS.f
  rw [if_pos (by omega), if_pos (by omega)]
  exact toClaimS_l0 a (by omega) a.length 0 k (by omega) hk
theorem eqClaimS_l0 (a : List S51) (hn : a.length ≤ 4611686018427387904) : ∀ (d i k : Nat), i + d = a.length → d < k → laws_eqClaimS.l0 k a a (i : Int) = some true
  | 0, i, k, hi, hk => by
    obtain ⟨k, rfl⟩ : ∃ q, k = q + 1 := ⟨k - 1, by omega⟩
    simp only [laws_eqClaimS.l0]
    rw [if_neg (by omega)]
  | d + 1, i, k, hi, hk => by
    obtain ⟨k, rfl⟩ : ∃ q, k = q + 1 := ⟨k - 1, by omega⟩
    have ih := eqClaimS_l0 a hn d (i + 1) k (by omega) (by omega)
    have ha : i < a.length := by omega
    simp only [laws_eqClaimS.l0, laws_eqClaim.f]
    rw [if_pos (by omega), if_pos (by omega), if_pos (by omega), up64 ha hn]
    simpa using ih
theorem eqClaimS_f (a : List S51) (hn : a.length ≤ 4611686018427387904) {k : Nat} (hk : a.length < k) : laws_eqClaimS.f k a a = some true := by
  unfold laws_eqClaimS.f
  rw [if_pos rfl]
  exact eqClaimS_l0 a hn a.length 0 k (by omega) hk
theorem szClaimS_f (a : List S53) (hn : a.length ≤ 9223372036854775807) : laws_szClaimS.f a 1048576 = some (if a.length ≤ 1048576 then 1048576 - (a.length : Int) else -1) := by
  unfold laws_szClaimS.f
  rw [w64 (by omega) (by omega)]
  by_cases h : a.length ≤ 1048576
  · rw [if_neg (by omega), if_pos h]
  · rw [if_pos (by omega), if_neg h]
def okC (a : Int) (c : S51) : Bool := impl_AreClaims.in_ a c.f0 && impl_AreClaims.in_ a c.f1
theorem liGood_l0 (a : Int) (l : List S51) (hn : l.length ≤ 4611686018427387904) : ∀ (d i k : Nat), i + d = l.length → d < k → spec_liGood.l0 k a l (l.length : Int) (i : Int) = some ((l.drop i).all (okC a))
  | 0, i, k, hi, hk => by
    obtain ⟨k, rfl⟩ : ∃ q, k = q + 1 := ⟨k - 1, by omega⟩
    simp only [spec_liGood.l0]
    rw [if_neg (by omega), List.drop_eq_nil_of_le (by omega)]
    rfl
  | d + 1, i, k, hi, hk => by
    obtain ⟨k, rfl⟩ : ∃ q, k = q + 1 := ⟨k - 1, by omega⟩
    have ih := liGood_l0 a l hn d (i + 1) k (by omega) (by omega)
    have ha : i < l.length := by omega
    have e : ∀ x : Int, spec_l1In.f x 0 (wrap64 (a - 1)) = some (impl_AreClaims.in_ a x) := by
      intro x
      unfold spec_l1In.f impl_AreClaims.in_
      by_cases h : x ≥ 0
      · rw [if_pos h]; simp [h]
      · rw [if_neg h]; simp [h]
    simp only [spec_liGood.l0]
    rw [if_pos (by omega), if_pos (by omega), if_pos (by omega), rdClaim1 ha, e, e, up64 ha hn, ih, List.drop_eq_getElem_cons ha, List.all_cons]
    simp only [Option.bind_some, okC]
    cases impl_AreClaims.in_ a l[i].f0 <;> cases impl_AreClaims.in_ a l[i].f1 <;> simp
theorem AreClaims_both (a : Int) (L : List S51) (hL : L.length ≤ 1048576) : spec_AreClaims.f 2000000 a L = impl_AreClaims.f a L := by
  unfold spec_AreClaims.f spec_liGood.f spec_liFriends.f spec_l1In.f impl_AreClaims.f
  have hok : L.all (okC a) = L.all fun c => impl_AreClaims.in_ a c.f0 && impl_AreClaims.in_ a c.f1 := rfl
  rw [← hok]
  by_cases h1 : a ≥ 1
  · by_cases h2 : a ≤ 8
    · have e1 := liGood_l0 a L (by omega) L.length 0 1999999 (by omega) (by omega)
      rw [if_pos h1]
      simp only [Option.bind_some, h2, decide_true, if_true]
      rw [spec_liGood.j0.eq_def]
      by_cases h3 : L.length ≤ 20
      · have h3' : ¬ (L.length : Int) > 20 := by omega
        simp only [h3', decide_false, Bool.false_eq_true, if_false]
        rw [show (0 : Int) = ((0 : Nat) : Int) from rfl, e1]
        simp [h1, h3]
      · have h3' : (L.length : Int) > 20 := by omega
        simp only [h3', decide_true, if_true, Option.bind_some, h3, decide_false, Bool.false_and, Bool.and_false]
    · rw [if_pos h1]
      simp [h1, h2, spec_liGood.j0]
  · rw [if_neg h1]
    simp [h1, spec_liGood.j0]
theorem FnExactAreClaims : ∀ (a0 : Int) (l1 : List (S53)), (Lit.int .i64 a0).wf = true → l1.length ≤ maxLen → (∀ x ∈ l1, (fun x => (Lit.int .i64 x.f0).wf = true ∧ (Lit.int .i64 x.f1).wf = true ∧ (fun _ => True) x.f2) x) → ∃ k, laws_FnExactAreClaims.f k a0 l1 = some true := by
  intro a l _ hm _
  refine ⟨2000000, ?_⟩
  unfold laws_FnExactAreClaims.f
  rw [szClaimS_f l (by unfold maxLen at hm; omega)]
  simp only [Option.bind_some]
  by_cases h : l.length ≤ 1048576
  · have hs := AreClaims_both a (l.map cvClaim) (by simpa using h)
    have hi : ∃ r, impl_AreClaims.f a (l.map cvClaim) = some r := ⟨_, rfl⟩
    obtain ⟨r, hi⟩ := hi
    rw [hi] at hs
    rw [if_pos h, toClaimS_f l h (by omega), if_neg (by omega)]
    simp only [Option.bind_some, hs, hi, bne_self_eq_false, Bool.false_eq_true, if_false]
    rw [eqClaimS_f _ (by simp; omega) (by simp; omega)]
    simp
  · rw [if_neg h]
    simp

end Go.Proofs.Ytcclnmfkailmaab.Pure
