/- Same and In: the program's and the document's are one. -/
import Derived.Test.YtgipdacenppmdaaGreatDoorQD
import Derived.Test.YtgipdacenppmdaaGreatDoorLN
import Derived.Test.YtgipdacenppmdaaGreatDoorIO
import Derived.Test.YtgipdacenppmdaaGreatDoorIS
import Derived.Test.YtgipdacenppmdaaGreatDoorP14
set_option linter.unusedVariables false
set_option linter.unusedSimpArgs false
namespace Go.Proofs.YtgipdacenppmdaaGreatDoor.G
open Go.RowKit Go.Lib Go.Proofs.YtgipdacenppmdaaGreatDoorW.PrintWords Go.Proofs.YtgipdacenppmdaaGreatDoor.P
theorem rsame_l1 (a : ByteArray) (l1 l2 l3 l4 l5 : List S55) (ah : Int) (b : ByteArray) (m1 m2 m3 m4 m5 : List S55) (bh i : Int) (l m : List S55) (R : Option Bool) (N : Nat) (hb : l.length ≤ 1000000) (he : l.length = m.length)
    (hR : ∀ k, N ≤ k → watchfireref26_Same.l0 k (wrap64 (i + 1)) a l1 l2 l3 l4 l5 ah b m1 m2 m3 m4 m5 bh = R) :
    ∀ (d j k : Nat), j + d = l.length → N + d + 1 ≤ k → watchfireref26_Same.l1 k i l m (j : Int) a l1 l2 l3 l4 l5 ah b m1 m2 m3 m4 m5 bh = if eqL (l.drop j) (m.drop j) = true then R else some false
  | 0, j, k + 1, hj, hk => by
    rw [watchfireref26_Same.l1, if_neg (by omega), hR k (by omega), List.drop_of_length_le (by omega), List.drop_of_length_le (by omega), eqL, if_pos rfl]
  | d + 1, j, k + 1, hj, hk => by
    have hjl : j < l.length := by omega
    have hjm : j < m.length := by omega
    have ih := rsame_l1 a l1 l2 l3 l4 l5 ah b m1 m2 m3 m4 m5 bh i l m R N hb he hR d (j + 1) k (by omega) (by omega)
    rw [watchfireref26_Same.l1, if_pos (by omega), if_pos (by omega), if_pos (by omega), rd55 l j hjl, rd55 m j hjm, wid (x := (j : Int) + 1) (by omega) (by omega), show (j : Int) + 1 = ((j + 1 : Nat) : Int) by omega, ih, List.drop_eq_getElem_cons hjl, List.drop_eq_getElem_cons hjm, eqL]
    cases l[j].f0 == m[j].f0 <;> cases l[j].f1 == m[j].f1 <;> simp
  | _, _, 0, _, hk => absurd hk (by omega)
theorem rsame_l0 (a : ByteArray) (l1 l2 l3 l4 l5 : List S55) (ah : Int) (b : ByteArray) (m1 m2 m3 m4 m5 : List S55) (bh i : Int) (l m : List S55) (R : Bool) (N : Nat) (hi0 : 0 ≤ i) (hi : i < 5) (hb : l.length ≤ 20)
    (hp : watchfireref26_part.f a l1 l2 l3 l4 l5 ah i = some l) (hq : watchfireref26_part.f b m1 m2 m3 m4 m5 bh i = some m)
    (hR : ∀ k, N ≤ k → watchfireref26_Same.l0 k (i + 1) a l1 l2 l3 l4 l5 ah b m1 m2 m3 m4 m5 bh = some R) :
    ∀ k, N + 30 ≤ k → watchfireref26_Same.l0 k i a l1 l2 l3 l4 l5 ah b m1 m2 m3 m4 m5 bh = some (eqL l m && R) := by
  intro k hk
  obtain ⟨k, rfl⟩ : ∃ n, k = n + 1 := ⟨k - 1, by omega⟩
  rw [watchfireref26_Same.l0, if_pos hi, hp, Option.bind_some, hq, Option.bind_some]
  by_cases he : l.length = m.length
  · have := rsame_l1 a l1 l2 l3 l4 l5 ah b m1 m2 m3 m4 m5 bh i l m (some R) N (by omega) he (fun k hk => by rw [wid (x := i + 1) (by omega) (by omega)]; exact hR k hk) l.length 0 k (by omega) (by omega)
    rw [show ((0 : Nat) : Int) = 0 from rfl, List.drop_zero, List.drop_zero] at this
    rw [if_pos (by omega), this]
    cases eqL l m <;> simp
  · rw [if_neg (by omega), eqL_len l m he, Bool.false_and]
theorem rsame_f (a : ByteArray) (l1 l2 l3 l4 l5 : List S55) (ah : Int) (b : ByteArray) (m1 m2 m3 m4 m5 : List S55) (bh : Int) (hf : Few l1 l2 l3 l4 l5) (k : Nat) (hk : 200 ≤ k) :
    watchfireref26_Same.f k a l1 l2 l3 l4 l5 ah b m1 m2 m3 m4 m5 bh = ISame.f a l1 l2 l3 l4 l5 ah b m1 m2 m3 m4 m5 bh := by
  obtain ⟨f1, f2, f3, f4, f5⟩ := hf
  have h5 : ∀ k, 1 ≤ k → watchfireref26_Same.l0 k (4 + 1) a l1 l2 l3 l4 l5 ah b m1 m2 m3 m4 m5 bh = some (sameT a b ah bh) := by
    intro k hk
    obtain ⟨k, rfl⟩ : ∃ n, k = n + 1 := ⟨k - 1, by omega⟩
    rw [watchfireref26_Same.l0, if_neg (by omega)]
    unfold sameT
    by_cases h : a.toList = b.toList
    · rw [if_pos h, h, beq_self_eq_true, Bool.true_and]
    · rw [if_neg h, beq_eq_false_iff_ne.2 h, Bool.false_and]
  have h4 := rsame_l0 a l1 l2 l3 l4 l5 ah b m1 m2 m3 m4 m5 bh 4 l5 m5 _ 1 (by omega) (by omega) f5 rfl rfl h5
  have h3 := rsame_l0 a l1 l2 l3 l4 l5 ah b m1 m2 m3 m4 m5 bh 3 l4 m4 _ 31 (by omega) (by omega) f4 rfl rfl h4
  have h2 := rsame_l0 a l1 l2 l3 l4 l5 ah b m1 m2 m3 m4 m5 bh 2 l3 m3 _ 61 (by omega) (by omega) f3 rfl rfl h3
  have h1 := rsame_l0 a l1 l2 l3 l4 l5 ah b m1 m2 m3 m4 m5 bh 1 l2 m2 _ 91 (by omega) (by omega) f2 rfl rfl h2
  have h0 := rsame_l0 a l1 l2 l3 l4 l5 ah b m1 m2 m3 m4 m5 bh 0 l1 m1 _ 121 (by omega) (by omega) f1 rfl rfl h1
  unfold watchfireref26_Same.f ISame.f
  rw [h0 k (by omega), if_pos ⟨by omega, by omega, by omega, by omega, by omega⟩]
  simp only [Bool.and_assoc]
theorem rin_l0 (l : List ByteArray) (s : ByteArray) (hb : l.length ≤ 1000) : ∀ (d j k : Nat), j + d = l.length → d < k → watchfireref02_In.l0 k l s (j : Int) = some (decide (idxS (l.drop j) s j ≥ 0))
  | 0, j, k + 1, hj, hk => by
    rw [watchfireref02_In.l0, if_neg (by omega), List.drop_of_length_le (by omega)]
    rfl
  | d + 1, j, k + 1, hj, hk => by
    have hjl : j < l.length := by omega
    have ih := rin_l0 l s hb d (j + 1) k (by omega) (by omega)
    have e1 : rdOf ByteArray.empty l (j : Int) = l[j] := by unfold rdOf; simp [hjl]
    rw [watchfireref02_In.l0, if_pos (by omega), if_pos (by omega), e1, wid (x := (j : Int) + 1) (by omega) (by omega), show (j : Int) + 1 = ((j + 1 : Nat) : Int) by omega, ih, List.drop_eq_getElem_cons hjl, show idxS (l[j] :: l.drop (j + 1)) s j = (if s.toList = l[j].toList then (j : Int) else idxS (l.drop (j + 1)) s (j + 1)) from rfl]
    by_cases he : l[j].toList = s.toList
    · rw [if_pos he, if_pos he.symm, decide_eq_true (show (j : Int) ≥ 0 by omega)]
    · rw [if_neg he, if_neg (fun h => he h.symm)]
  | _, _, 0, _, hk => absurd hk (by omega)
theorem rin_f (l : List ByteArray) (s : ByteArray) (hb : l.length ≤ 1000) (k : Nat) (hk : 1001 ≤ k) : watchfireref02_In.f k l s = some (inNames l s) := by
  have := rin_l0 l s hb l.length 0 k (by omega) (by omega)
  rw [show ((0 : Nat) : Int) = 0 from rfl, List.drop_zero] at this
  exact this
def Small (x : S24) : Prop := Few x.f1 x.f2 x.f3 x.f4 x.f5 ∧ x.f0.size ≤ 200
theorem rd24 (l : List S24) (j : Nat) (h : j < l.length) : rd_T24 l (j : Int) = l[j] := by unfold rd_T24; simp [h]
theorem rany_l0 (l : List S24) (names : List ByteArray) (s : Int) (hb : l.length ≤ 1000) (hn : names.length ≤ 1000) (hx : ∀ x ∈ l, Small x) : ∀ (d j k : Nat), j + d = l.length → 13200 + d < k → watchfireref26_Any.l0 k l names s (j : Int) = some ((l.drop j).any fun x => inNames names x.f0 && hasB x s)
  | 0, j, k + 1, hj, hk => by
    rw [watchfireref26_Any.l0, if_neg (by omega), List.drop_of_length_le (by omega)]
    rfl
  | d + 1, j, k + 1, hj, hk => by
    have hjl : j < l.length := by omega
    have ih := rany_l0 l names s hb hn hx d (j + 1) k (by omega) (by omega)
    have hs := hx l[j] (List.getElem_mem _)
    rw [watchfireref26_Any.l0, if_pos (by omega), if_pos (by omega), rd24 l j hjl, rin_f names _ hn k (by omega), Option.bind_some, rhas_f _ _ _ _ _ _ _ s hs.1 (Nat.le_trans hs.2 (by omega)) k (by omega), hasB_f, Option.bind_some, wid (x := (j : Int) + 1) (by omega) (by omega), show (j : Int) + 1 = ((j + 1 : Nat) : Int) by omega, ih, List.drop_eq_getElem_cons hjl, List.any_cons]
    cases inNames names l[j].f0 <;> cases hasB l[j] s <;> simp
  | _, _, 0, _, hk => absurd hk (by omega)
end Go.Proofs.YtgipdacenppmdaaGreatDoor.G
