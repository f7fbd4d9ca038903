/- The document's functions are the plain ones. -/
import Derived.Test.YtmifpookhhkgeaaDoorQS
import Derived.Test.YtmifpookhhkgeaaDoorQR
set_option linter.unusedVariables false
set_option linter.unusedSimpArgs false
namespace Go.Proofs.YtmifpookhhkgeaaDoor.Q
open Go.RowKit Go.Lib Go.Proofs.YtmifpookhhkgeaaDoorW.PrintWords Go.Proofs.YtmifpookhhkgeaaDoor.P Go.Proofs.YtmifpookhhkgeaaDoor.G
def cv (x : S47) : S69 := ⟨x.f0, x.f1, x.f2⟩
theorem rd69 (L : List S47) (j : Nat) (h : j < L.length) : rd_T69 (L.map cv) (j : Int) = cv L[j] := by simp [rd_T69, h]
theorem ahead_f (y x : S47) : watchfireref14_ahead.f y.f0.f0 y.f0.f1 y.f0.f2 y.f0.f3 y.f0.f4 y.f1 y.f2 x.f0.f0 x.f0.f1 x.f0.f2 x.f0.f3 x.f0.f4 x.f1 x.f2 = some (ltQ y x) := by
  unfold watchfireref14_ahead.f ltQ
  by_cases h1 : y.f1 < x.f1
  · simp [h1]
  · by_cases h2 : y.f1 = x.f1
    · simp [h1, h2]
    · simp [h1, h2]
theorem wr1 {n j : Nat} (h : j < n) (hn : n ≤ 1000) : wrap64 ((j : Int) + 1) = ((j + 1 : Nat) : Int) := by unfold wrap64; omega
theorem putQ_cons (y : S47) (t : List S47) (x : S47) : putQ (y :: t) x = if ltQ y x then y :: putQ t x else x :: y :: t := rfl
theorem put_l0 (L : List S47) (x : S47) (hL : L.length ≤ 1000) (d : Nat) : ∀ (k j : Nat), j + d = L.length → d < k → watchfireref14_put.l0 k (L.map cv) (j : Int) x.f0.f0 x.f0.f1 x.f0.f2 x.f0.f3 x.f0.f4 x.f1 x.f2 = some ((L.take j ++ putQ (L.drop j) x).map cv) := by
  induction d with
  | zero =>
    intro k j h hk
    obtain ⟨k, rfl⟩ : ∃ m, k = m + 1 := ⟨k - 1, by omega⟩
    obtain rfl : j = L.length := by omega
    simp only [watchfireref14_put.l0]
    rw [if_neg (by rw [List.length_map]; omega), if_pos (by omega), if_pos (by rw [List.length_map]; omega)]
    simp only [Option.bind_some, Int.toNat_natCast, List.nil_append, List.length_nil, List.length_append, List.length_take, List.length_drop, List.length_map, List.length_cons]
    rw [if_pos (by omega), if_pos (by omega), if_pos (by omega), ← List.map_take, ← List.map_drop, List.take_length, List.drop_length]
    simp [putQ]
    try rfl
  | succ d ih =>
    intro k j h hk
    obtain ⟨k, rfl⟩ : ∃ m, k = m + 1 := ⟨k - 1, by omega⟩
    have hj : j < L.length := by omega
    simp only [watchfireref14_put.l0]
    rw [if_pos (by rw [List.length_map]; omega), if_pos (by omega), rd69 L j hj, wr1 hj hL]
    have ha := ahead_f L[j] x
    simp only [cv] at ha ⊢
    rw [ha]
    simp only [Option.bind_some]
    rw [List.drop_eq_getElem_cons hj]
    by_cases hlt : ltQ L[j] x = true
    · rw [if_pos hlt]
      have := ih k (j + 1) (by omega) (by omega)
      rw [this, putQ_cons, if_pos hlt, List.take_succ_eq_append_getElem hj, List.append_assoc, List.singleton_append]
    · rw [if_neg hlt, if_pos (by rw [List.length_map]; omega)]
      simp only [Option.bind_some, Int.toNat_natCast, List.nil_append, List.length_nil, List.length_append, List.length_take, List.length_drop, List.length_map, List.length_cons]
      rw [if_pos (by omega), if_pos (by omega), if_pos (by omega)]
      rw [putQ_cons, if_neg hlt]
      simp [← List.map_take, ← List.map_drop]
      try rfl
theorem put_f (L : List S47) (x : S47) (hL : L.length ≤ 1000) (k : Nat) (hk : L.length < k) : watchfireref14_put.f k (L.map cv) x.f0.f0 x.f0.f1 x.f0.f2 x.f0.f3 x.f0.f4 x.f1 x.f2 = some ((putQ L x).map cv) := by
  have := put_l0 L x hL L.length k 0 (by omega) hk
  simpa [watchfireref14_put.f] using this
theorem push_l0 (L : List S47) (came lost : Int) (e : S27) (hL : L.length ≤ 32) (hc : checkC e = 0) (hc0 : 0 ≤ came) (hc1 : came ≤ 1000000000) (hl0 : 0 ≤ lost) (hl1 : lost ≤ 1000000000) (d : Nat) : ∀ (k j : Nat), j + d = L.length → d + 100 < k →
    watchfireref14_Queue_Push.l0 k (((L.take j).filter (noK e)).map cv) (j : Int) (L.map cv) came lost e.f0 e.f1 e.f2 e.f3 e.f4 = if (L.drop j).any (badK e) then some (L.map cv, came, lost, false) else if 32 < (putQ (L.filter (noK e)) ⟨e, 0, came⟩).length then some (((putQ (L.filter (noK e)) ⟨e, 0, came⟩).take 32).map cv, came + 1, lost + 1, true) else some ((putQ (L.filter (noK e)) ⟨e, 0, came⟩).map cv, came + 1, lost, true) := by
  induction d with
  | zero =>
    intro k j h hk
    obtain ⟨k, rfl⟩ : ∃ m, k = m + 1 := ⟨k - 1, by omega⟩
    obtain rfl : j = L.length := by omega
    simp only [watchfireref14_Queue_Push.l0]
    rw [if_neg (by rw [List.length_map]; omega), List.take_length, List.drop_length]
    have hfl := List.length_filter_le (noK e) L
    have hp := put_f (L.filter (noK e)) ⟨e, 0, came⟩ (by omega) k (by omega)
    simp only at hp
    rw [hp]
    have hpl := putQ_len (L.filter (noK e)) ⟨e, 0, came⟩
    obtain ⟨M, hM⟩ : ∃ M, M = putQ (L.filter (noK e)) ⟨e, 0, came⟩ := ⟨_, rfl⟩
    rw [← hM] at hpl ⊢
    have hw1 : wrap64 (came + 1) = came + 1 := by unfold wrap64; omega
    have hw2 : wrap64 (lost + 1) = lost + 1 := by unfold wrap64; omega
    have hw3 : wrap64 (((M.map cv).length : Int) - 1) = ((M.length - 1 : Nat) : Int) := by rw [List.length_map]; unfold wrap64; omega
    simp only [Option.bind_some, List.any_nil, Bool.false_eq_true, if_false]
    rw [hw1, hw2, hw3]
    by_cases hov : 32 < M.length
    · rw [if_pos (by rw [List.length_map]; omega), if_pos (by omega), if_pos (by rw [List.length_map]; omega), if_pos hov]
      have e32 : M.length - 1 = 32 := by omega
      rw [Int.toNat_natCast, e32, List.map_take]
    · rw [if_neg (by rw [List.length_map]; omega), if_neg hov]
  | succ d ih =>
    intro k j h hk
    obtain ⟨k, rfl⟩ : ∃ m, k = m + 1 := ⟨k - 1, by omega⟩
    have hj : j < L.length := by omega
    simp only [watchfireref14_Queue_Push.l0]
    rw [if_pos (by rw [List.length_map]; omega), if_pos (by omega), rd69 L j hj, wr1 hj (by omega)]
    have ih' := ih k (j + 1) (by omega) (by omega)
    rw [List.take_succ_eq_append_getElem hj, List.filter_append] at ih'
    rw [List.drop_eq_getElem_cons hj, List.any_cons]
    have hab := wabove_f e L[j].f0
    by_cases hk2 : L[j].f0.f0 = e.f0
    · have hno : noK e L[j] = false := by unfold noK; simp [hk2]
      rw [if_pos (show (cv L[j]).f0.f0.toList = e.f0.toList by show L[j].f0.f0.toList = _; rw [hk2])]
      simp only [cv]
      rw [hab]
      simp only [Option.bind_some]
      by_cases ha : aboveB e L[j].f0 = true
      · have hbad : badK e L[j] = false := by unfold badK; simp [ha]
        rw [if_pos ha, hbad, Bool.false_or, ← ih']
        simp [hno]
      · have hbad : badK e L[j] = true := by unfold badK; simp [hk2, ha]
        rw [if_neg ha, hbad]
        simp
    · have hno : noK e L[j] = true := by unfold noK; simp [hk2]
      have hbad : badK e L[j] = false := by unfold badK; simp [hk2]
      have hne : ¬ ((cv L[j]).f0.f0.toList = e.f0.toList) := fun he => hk2 (ba_inj he)
      have hlt : ((List.take j L).filter (noK e)).length ≤ 32 := Nat.le_trans (List.length_filter_le _ _) (by rw [List.length_take]; omega)
      rw [if_neg hne, if_pos (by rw [List.length_map]; omega), hbad, Bool.false_or, ← ih']
      rw [show List.filter (noK e) [L[j]] = [L[j]] by simp [hno], List.map_append]
      rfl
theorem push_f (L : List S47) (came lost : Int) (e : S27) (hL : L.length ≤ 32) (hc0 : 0 ≤ came) (hc1 : came ≤ 1000000000) (hl0 : 0 ≤ lost) (hl1 : lost ≤ 1000000000) :
    watchfireref14_Queue_Push.f 1000 (L.map cv) came lost e.f0 e.f1 e.f2 e.f3 e.f4 = some ((refPush L came lost e).1.map cv, (refPush L came lost e).2) := by
  unfold watchfireref14_Queue_Push.f
  rw [wcheck_f e 999]
  simp only [Option.bind_some]
  unfold refPush
  by_cases hc : checkC e = 0
  · rw [if_pos hc, if_pos hc]
    have := push_l0 L came lost e hL hc hc0 hc1 hl0 hl1 L.length 1000 0 (by omega) (by omega)
    simp only [List.take_zero, List.filter_nil, List.map_nil, List.drop_zero] at this
    rw [show ((0 : Nat) : Int) = 0 from rfl] at this
    rw [this]
    split
    · rfl
    · split <;> rfl
  · rw [if_neg hc, if_neg hc]
theorem take_l0 (L : List S47) (came lost limit : Int) (hL : L.length ≤ 32) (hv : ∀ x ∈ L, checkC x.f0 = 0 ∧ 0 ≤ x.f1 ∧ x.f1 ≤ 1000000000) (d : Nat) : ∀ (k j : Nat) (room : Int) (out : List S27) (a : List S47), j + d = L.length → d + 100 < k → room ≤ 9223372036854775807 → out.length ≤ j → a.length ≤ j →
    watchfireref14_Queue_Take.l0 k room limit out (a.map cv) (j : Int) (L.map cv) came lost = some (((takeL (L.drop j) room limit).2.foldl putQ a).map cv, came, lost, out ++ (takeL (L.drop j) room limit).1) := by
  induction d with
  | zero =>
    intro k j room out a h hk hr ho ha
    obtain ⟨k, rfl⟩ : ∃ m, k = m + 1 := ⟨k - 1, by omega⟩
    obtain rfl : j = L.length := by omega
    simp only [watchfireref14_Queue_Take.l0]
    rw [if_neg (by rw [List.length_map]; omega), List.drop_length]
    simp [takeL]
  | succ d ih =>
    intro k j room out a h hk hr ho ha
    obtain ⟨k, rfl⟩ : ∃ m, k = m + 1 := ⟨k - 1, by omega⟩
    have hj : j < L.length := by omega
    obtain ⟨hv1, hv2, hv3⟩ := hv L[j] (List.getElem_mem _)
    simp only [watchfireref14_Queue_Take.l0]
    rw [if_pos (by rw [List.length_map]; omega), if_pos (by omega), rd69 L j hj, wr1 hj (by omega)]
    have hput : watchfireref09_Put.f (cv L[j]).f0.f0 (cv L[j]).f0.f1 (cv L[j]).f0.f2 (cv L[j]).f0.f3 (cv L[j]).f0.f4 = some (entB L[j].f0) := wput_f hv1
    have hsz := size_rng hv1
    have hlen : ((entB L[j].f0).length : Int) = sizeE L[j].f0 := rfl
    have hw : wrap64 ((cv L[j]).f1 + 1) = L[j].f1 + 1 := by show wrap64 (L[j].f1 + 1) = _; unfold wrap64; omega
    rw [List.drop_eq_getElem_cons hj, takeL_cons, hput]
    simp only [Option.bind_some]
    rw [hlen, hw]
    by_cases hs : sizeE L[j].f0 ≤ room
    · have hw2 : wrap64 (room - sizeE L[j].f0) = room - sizeE L[j].f0 := by unfold wrap64; omega
      rw [if_pos hs, if_pos hs, if_pos (by omega), hw2]
      by_cases hl : limit ≤ L[j].f1 + 1
      · rw [if_pos (show L[j].f1 + 1 ≥ limit from hl), if_pos hl]
        have := ih k (j + 1) (room - sizeE L[j].f0) (out ++ [L[j].f0]) a (by omega) (by omega) (by omega) (by simp; omega) (by omega)
        simp only [cv]
        refine Eq.trans this ?_
        simp
      · rw [if_neg (show ¬ L[j].f1 + 1 ≥ limit from hl), if_neg hl]
        have hp : watchfireref14_put.f k (a.map cv) (cv L[j]).f0.f0 (cv L[j]).f0.f1 (cv L[j]).f0.f2 (cv L[j]).f0.f3 (cv L[j]).f0.f4 (L[j].f1 + 1) (cv L[j]).f2 = _ := put_f a ⟨L[j].f0, L[j].f1 + 1, L[j].f2⟩ (by omega) k (by omega)
        rw [hp]
        simp only [Option.bind_some]
        have := ih k (j + 1) (room - sizeE L[j].f0) (out ++ [L[j].f0]) (putQ a ⟨L[j].f0, L[j].f1 + 1, L[j].f2⟩) (by omega) (by omega) (by omega) (by simp; omega) (by rw [putQ_len]; omega)
        refine Eq.trans this ?_
        simp
    · rw [if_neg hs, if_neg hs]
      have hp : watchfireref14_put.f k (a.map cv) (cv L[j]).f0.f0 (cv L[j]).f0.f1 (cv L[j]).f0.f2 (cv L[j]).f0.f3 (cv L[j]).f0.f4 (cv L[j]).f1 (cv L[j]).f2 = _ := put_f a L[j] (by omega) k (by omega)
      rw [hp]
      simp only [Option.bind_some]
      have := ih k (j + 1) room out (putQ a L[j]) (by omega) (by omega) (by omega) (by omega) (by rw [putQ_len]; omega)
      refine Eq.trans this ?_
      simp
theorem take_f (L : List S47) (came lost room limit : Int) (hL : L.length ≤ 32) (hv : ∀ x ∈ L, checkC x.f0 = 0 ∧ 0 ≤ x.f1 ∧ x.f1 ≤ 1000000000) (hr : room ≤ 9223372036854775807) :
    watchfireref14_Queue_Take.f 1000 (L.map cv) came lost room limit = some ((refTake L room limit).map cv, came, lost, (takeL L room limit).1) := by
  unfold watchfireref14_Queue_Take.f
  have := take_l0 L came lost limit hL hv L.length 1000 0 room [] [] (by omega) (by omega) hr (by simp) (by simp)
  simpa [refTake] using this
theorem same_l0 (l : List S27) (hl : l.length ≤ 1000) (d : Nat) : ∀ (k j : Nat), j + d = l.length → d < k → watchfireref10_Same.l0 k l l (j : Int) = some true := by
  induction d with
  | zero =>
    intro k j h hk
    obtain ⟨k, rfl⟩ : ∃ m, k = m + 1 := ⟨k - 1, by omega⟩
    simp only [watchfireref10_Same.l0]
    rw [if_neg (by omega)]
  | succ d ih =>
    intro k j h hk
    obtain ⟨k, rfl⟩ : ∃ m, k = m + 1 := ⟨k - 1, by omega⟩
    simp only [watchfireref10_Same.l0]
    rw [if_pos (by omega), if_pos (by omega), if_pos (by omega)]
    simp only [beq_self_eq_true, Bool.not_true, Bool.or_false, Bool.false_eq_true, if_false]
    rw [wr1 (n := l.length) (by omega) hl]
    exact ih k (j + 1) (by omega) (by omega)
theorem same_f (l : List S27) (hl : l.length ≤ 999) : watchfireref10_Same.f 1000 l l = some true := by
  unfold watchfireref10_Same.f
  rw [if_pos rfl]
  exact same_l0 l (by omega) l.length 1000 0 (by omega) (by omega)
end Go.Proofs.YtmifpookhhkgeaaDoor.Q
