/- The reader of bytes: until, Text (and Int): what they do, as plain Lean functions, each with its contract. -/
import Derived.Test.YtpbemhjiffnamaaDoorRD
import Derived.Deep.QuietTactic
import Derived.BigQuiet
set_option linter.unusedVariables false
set_option linter.unusedSimpArgs false
namespace Go.Proofs.YtpbemhjiffnamaaDoor.RD
open Go.RowKit Go.Shelf Go.Lib Go.Proofs.YtpbemhjiffnamaaDoorW.PrintWords Go.Proofs.YtpbemhjiffnamaaDoorW.PrintMore Go.Proofs.YtpbemhjiffnamaaDoor.G Go.Proofs.YtpbemhjiffnamaaDoor.P

/-! ### Index -/
/-- Where a byte stands first; -1: nowhere. -/
def idxI (l : List Int) (a : Int) : Int := match l.findIdx? (fun x => x == a) with
  | some i => i
  | none => -1
theorem idx_l0 (l : List Int) (a : Int) (hl : l.length ≤ 9223372036854775807) (d : Nat) : ∀ (k j : Nat), j + d = l.length → d < k → (∀ i (h : i < l.length), i < j → l[i] ≠ a) → slices_Index_byte_byte.l0 k l a (l.length : Int) (j : Int) = some (idxI l a) := by
  induction d with
  | zero =>
    intro k j h hk hp
    obtain ⟨k, rfl⟩ : ∃ m, k = m + 1 := ⟨k - 1, by omega⟩
    simp only [slices_Index_byte_byte.l0]
    rw [if_neg (by omega)]
    have : l.findIdx? (fun x => x == a) = none := by
      rw [List.findIdx?_eq_none_iff]
      intro x hx
      obtain ⟨i, hi, rfl⟩ := List.getElem_of_mem hx
      exact beq_eq_false_iff_ne.2 (hp i hi (by omega))
    simp [idxI, this]
  | succ d ih =>
    intro k j h hk hp
    obtain ⟨k, rfl⟩ : ∃ m, k = m + 1 := ⟨k - 1, by omega⟩
    have hj : j < l.length := by omega
    have hg : rd l (j : Int) = l[j] := by simp [rd, hj]
    simp only [slices_Index_byte_byte.l0]
    rw [if_pos (by omega), if_pos (by omega), if_pos (by omega), hg]
    by_cases e : a = l[j]
    · rw [if_pos e]
      have : l.findIdx? (fun x => x == a) = some j := by
        rw [List.findIdx?_eq_some_iff_getElem]
        exact ⟨hj, by rw [e]; simp, fun i hi => by simpa using hp i (by omega) hi⟩
      simp [idxI, this]
    · rw [if_neg e]
      have ew : wrap64 ((j : Int) + 1) = ((j + 1 : Nat) : Int) := by unfold wrap64; omega
      rw [ew]
      refine ih k (j + 1) (by omega) (by omega) (fun i hi hij => ?_)
      rcases Nat.lt_or_ge i j with h' | h'
      · exact hp i hi h'
      · obtain rfl : i = j := by omega
        exact fun h => e h.symm
theorem idx_any (A : Option Addr) (c : Nat) (l : List Int) (a : Int) (w : World) (hC : Kd.C (Kd.int .u8) w A l.length l) (hc : l.length ≤ c) :
    Calls Tryd.prog 47 #[.slice A l.length c, .int .u8 a] w fun e w' => e = .returned (.int .i64 (idxI l a)) ∧ ∃ m, w' = w.drewN m := by
  have hf : slices_Index_byte_byte.f (l.length + 1) l a = some (idxI l a) := by
    have := idx_l0 l a hC.2.1 l.length (l.length + 1) 0 (by omega) (by omega) (fun i _ h => absurd h (by omega))
    simpa [slices_Index_byte_byte.f] using this
  exact (slices_Index_byte_byte.calls _ A c l a _ w hC hc hf).mono fun e w' ⟨h1, h2⟩ => ⟨h1, h2.out⟩
theorem idxI_cases (l : List Int) (a : Int) : (idxI l a = -1 ∧ ∀ x ∈ l, x ≠ a) ∨ ∃ i : Nat, ∃ h : i < l.length, idxI l a = i ∧ l[i] = a ∧ ∀ j (hj : j < i), l[j] ≠ a := by
  unfold idxI
  cases h : l.findIdx? (fun x => x == a) with
  | none =>
    left
    rw [List.findIdx?_eq_none_iff] at h
    exact ⟨rfl, fun x hx => by simpa using h x hx⟩
  | some i =>
    right
    rw [List.findIdx?_eq_some_iff_getElem] at h
    obtain ⟨hi, h1, h2⟩ := h
    exact ⟨i, hi, rfl, by simpa using h1, fun j hj => by simpa using h2 j hj⟩
/-! ### until -/
/-- What until answers, and what it leaves. -/
def untilF (bs : List Int) (e : Int) (stop : Int) (long : Nat) : Int × Bool × List Int × Int :=
  if idxI (bs.take (long + 1)) stop = -1 then (0, false, [], if long < bs.length then 4 else 3)
  else match numOf (strOfNums (bs.take (idxI (bs.take (long + 1)) stop).toNat)) with
    | some v => (v, true, bs.drop ((idxI (bs.take (long + 1)) stop).toNat + 1), e)
    | none => (0, false, [], 4)
theorem ba_inj {a b : ByteArray} (h : a.toList = b.toList) : a = b := by
  rw [ByteArray.toList_eq, ByteArray.toList_eq] at h
  obtain ⟨⟨a⟩⟩ := a
  obtain ⟨⟨b⟩⟩ := b
  simp at h
  rw [h]
theorem min2_mn (k k' : IntKind) (x y : Int) : Builtin.min2 (.int k x) (.int k' y) = pure (.int k (mn x y)) := by simp only [Builtin.min2, mn]
theorem keep_rd {w w' : World} {g : Nat} {cs : Array Value} (hb : w.heap[g]? = some (.cells cs 61 (0, 0))) (hw : Below w.heap.size w w') : w'.heap[g]? = some (.cells cs 61 (0, 0)) := (hw.block g (blk_lt hb)).trans hb
section
attribute [local go_sem] min_two min2_mn
set_option maxHeartbeats 4000000 in
set_option maxRecDepth 100000 in
theorem until10_any (g : Nat) (bs : List Int) (e stop : Int) (w : World) (h : RdAt w g bs e) (hT : TabE w) (hn : bs.length ≤ 140737488351232) :
    Calls Tryd.prog 42 #[.pointer (some ⟨g, 0, none⟩), .int .u8 stop, .int .i64 10] w fun en w' => en = .returned (.tuple #[.int .i64 (untilF bs e stop 10).1, .bool (untilF bs e stop 10).2.1]) ∧ RdAt w' g (untilF bs e stop 10).2.2.1 (untilF bs e stop 10).2.2.2 ∧ Fr w w' g := by
  have H := Aside0.mk h
  have HT := Aside0.mk hT
  obtain ⟨A, c, hb, hC, hc, hf, hr, hM⟩ := h
  have HM := Aside0.mk hM
  clear hM
  obtain ⟨K, hK⟩ : ∃ K : Nat, K = (bs.take (10 + 1)).length := ⟨_, rfl⟩
  have hKl : K = min (10 + 1) bs.length := by rw [hK, List.length_take]
  have hKn : K ≤ bs.length := by omega
  have hK11 : K ≤ 10 + 1 := by omega
  have hCK : Kd.C (Kd.int .u8) w A K (bs.take (10 + 1)) := by
    have e1 : bs.take (10 + 1) = bs.take K := by rw [hKl, List.take_eq_take_min]
    rw [hK, e1]
    exact Kd.C_take hC hKn
  obtain ⟨p, hp⟩ : ∃ p, p = bs.take (10 + 1) := ⟨_, rfl⟩
  have HP := Aside0.mk hp
  rw [← hp] at hK hCK
  have HIX := Aside0.mk (fun m : Nat => idx_any A c p stop (w.drewN m) (by rw [← hK]; exact hCK) (by rw [← hK]; omega))
  rw [← hK] at HIX
  have hz : (Tryd.prog.info? 5).map (fun i => i.size) = some 1 := by kernel_rfl
  obtain ⟨i0, hi0, _⟩ := Option.map_eq_some_iff.1 hz
  obtain ⟨n, hnn⟩ : ∃ n, n = bs.length := ⟨_, rfl⟩
  have hcut := cut_to (P := Tryd.prog) 36 5 .i64 Tryd.underlying36 hi0 A n c (K : Int) (by omega) (by omega) (by omega)
  rw [Int.toNat_natCast] at hcut
  have hmn : mn (n : Int) (10 + 1) = (K : Int) := by unfold mn; split <;> omega
  have h0 : w.cell? ⟨g, 0, none⟩ = some (.slice A n c) := by rw [hnn]; exact (blk_cell hb 0).trans rfl
  have HB := Aside0.mk hb
  have HC := Aside0.mk hC
  have HCC := Aside0.mk hc
  have HF := Aside0.mk hf
  have HR := Aside0.mk hr
  have HN := Aside0.mk hnn
  have HK := Aside0.mk hK
  have HKL := Aside0.mk (And.intro hKl hKn)
  have HNB := Aside0.mk hn
  obtain ⟨ix, hix⟩ : ∃ ix, ix = idxI p stop := ⟨_, rfl⟩
  have HX := Aside0.mk hix
  rw [← hix] at HIX
  simp only [Int.reduceAdd] at hmn
  clear hCK hp hK hb hC hc hf hr hnn hKl hKn hK11 hz hn hT hix
  rcases idxI_cases p stop with ⟨hneg, _⟩ | ⟨i, hi, hie, hia, hib⟩
  · by_cases hl : 10 < n
    · have HU := Aside0.mk (show untilF bs e stop 10 = (0, false, [], 4) by
        unfold untilF
        rw [← HP.out, hneg, if_pos rfl, if_pos (by rw [← HN.out]; exact hl)])
      have hix2 := HX.out
      rw [hneg] at hix2
      subst hix2
      have hgt : decide ((n : Int) > 10) = true := by simp; omega
      have hlt : decide ((10 : Int) < (n : Int)) = true := by simp; omega
      have hlt2 : decide (10 < n) = true := by simp; omega
      clear hl hneg
      go_enter Tryd.func42, Tryd.ntmps42
      go_wp2_with (fail)
      go_quiet ((go_at_call 47; exact Calls.quiet_of (HIX.out _)))
      clear HIX hcut hmn
      go_wp2_with (fail)
      refine (fail_any g bs e 4 _ (H.out.drewN _)).mono ?_
      rintro en w1 ⟨rfl, hr1, hf1⟩
      have HR1 := Aside0.mk hr1
      have HF1 := Aside0.mk (Fr.trans (Fr.of_below (pw_below_drewN (Below.refl _ w) _) H.out.lt) hf1)
      clear hr1 hf1 h0
      go_wp2_with (fail)
      go_ret2
      rw [HU.out]
      exact ⟨rfl, HR1.out, HF1.out⟩
    · have HU := Aside0.mk (show untilF bs e stop 10 = (0, false, [], 3) by
        unfold untilF
        rw [← HP.out, hneg, if_pos rfl, if_neg (by rw [← HN.out]; exact hl)])
      have hix2 := HX.out
      rw [hneg] at hix2
      subst hix2
      have hgt : decide ((n : Int) > 10) = false := by simp; omega
      have hlt : decide ((10 : Int) < (n : Int)) = false := by simp; omega
      have hlt2 : decide (10 < n) = false := by simp; omega
      clear hl hneg
      go_enter Tryd.func42, Tryd.ntmps42
      go_wp2_with (fail)
      go_quiet ((go_at_call 47; exact Calls.quiet_of (HIX.out _)))
      clear HIX hcut hmn
      go_wp2_with (fail)
      refine (fail_any g bs e 3 _ (H.out.drewN _)).mono ?_
      rintro en w1 ⟨rfl, hr1, hf1⟩
      have HR1 := Aside0.mk hr1
      have HF1 := Aside0.mk (Fr.trans (Fr.of_below (pw_below_drewN (Below.refl _ w) _) H.out.lt) hf1)
      clear hr1 hf1 h0
      go_wp2_with (fail)
      go_ret2
      rw [HU.out]
      exact ⟨rfl, HR1.out, HF1.out⟩
  · have hix2 := HX.out
    rw [hie] at hix2
    subst hix2
    have HIE := Aside0.mk hie
    have hiK : i < K := by rw [HK.out]; exact hi
    have hin : i < n := by have := HKL.out.2; rw [← HN.out] at this; omega
    have hlt0 : decide ((i : Int) < 0) = false := by simp
    have hcut1 := cut_to (P := Tryd.prog) 36 5 .i64 Tryd.underlying36 hi0 A n c (i : Int) (by omega) (by omega) (by have := HCC.out; rw [← HN.out] at this; exact this)
    rw [Int.toNat_natCast] at hcut1
    have hCi : ∀ W, Kd.C (Kd.int .u8) W A bs.length bs → (convert 36 9 (.slice A i c)).run Tryd.prog W = .ok (.string (strOfNums (bs.take i))) W := fun W hW => by
      have h1 := Kd.C_take hW (m := i) (by rw [← HN.out]; omega)
      have e1 : (bs.take i).length = i := by rw [List.length_take, ← HN.out]; omega
      rw [e1] at h1
      exact Kd.C_string Tryd.underlying36 Tryd.underlying5 Tryd.underlying9 h1
    have hconv := fun m : Nat => hCi (w.drewN m) HC.out
    obtain ⟨s, hs⟩ : ∃ s, s = strOfNums (bs.take i) := ⟨_, rfl⟩
    have hss : s.size ≤ 140737488351232 := by
      rw [hs]
      have h1 : (strOfNums (bs.take i)).size = (bs.take i).length := by simp [strOfNums, ByteArray.size]
      have h2 := HNB.out
      rw [h1, List.length_take]
      omega
    have HS := Aside0.mk hs
    have HSS := Aside0.mk hss
    rw [← hs] at hconv
    have hib2 : (i : Int) ≤ 140737488351232 := by
      have h2 := HNB.out
      rw [← HN.out] at h2
      omega
    obtain ⟨A', hA', hcut2⟩ := cut_bytes A n c (i + 1) (by omega)
    rw [show ((i + 1 : Nat) : Int) = (i : Int) + 1 from by omega] at hcut2
    have HA' := Aside0.mk hA'
    clear hA'
    clear hs hss hie hi hia hib hCi hlt0
    have hlt0 : decide ((i : Int) < 0) = false := by simp
    clear hiK
    have HIN := Aside0.mk hin
    clear hin
    go_enter Tryd.func42, Tryd.ntmps42
    go_wp2_with (fail)
    go_quiet ((go_at_call 47; exact Calls.quiet_of (HIX.out _)))
    clear HIX hcut hmn
    go_wp2_with (fail)
    refine (parse_any s HSS.out _ (HT.out.below (pw_below_drewN (Below.refl _ w) _))).mono ?_
    rintro en w1 ⟨hb1, hcase⟩
    have HB1 := Aside0.mk (below_then (pw_below_drewN (Below.refl _ w) _) (Nat.le_refl _) hb1)
    clear hb1 hconv hcut1 h0
    rcases hcase with ⟨v, hv, rfl⟩ | ⟨hnv, v, t, q, rfl⟩
    · have HV := Aside0.mk hv
      have hvb := Lib.parseIntB_bounds hv
      obtain ⟨fs, hfs⟩ : ∃ fs : ByteArray, fs = ⟨(Lib.itoa v).toArray⟩ := ⟨_, rfl⟩
      have HFS := Aside0.mk hfs
      have hfm := format_any v (by have := hvb.1; simpa using this) (by have := hvb.2; simp at this; omega) w1 (HT.out.below HB1.out)
      rw [← hfs] at hfm
      have HFM := Aside0.mk hfm
      clear hv hvb hfs hfm
      go_wp2_with (fail)
      refine HFM.out.mono ?_
      rintro en w2 ⟨rfl, hb2⟩
      have HB2 := Aside0.mk (below_then HB1.out HB1.out.size hb2)
      clear hb2 HFM
      by_cases hEq : fs = s
      · have HU := Aside0.mk (show untilF bs e stop 10 = (v, true, bs.drop (i + 1), e) by
          unfold untilF
          rw [← HP.out, HIE.out, if_neg (by omega), Int.toNat_natCast]
          have hno : numOf (strOfNums (bs.take i)) = some v := by
            rw [← HS.out]
            unfold numOf
            rw [HV.out]
            simp only []
            rw [if_pos (by rw [← HFS.out]; exact hEq)]
          rw [hno])
        have hne : (fs.toList == s.toList) = true := by rw [hEq]; simp
        have hb2' := keep_rd HB.out HB2.out
        have h0' : w2.cell? ⟨g, 0, none⟩ = some (.slice A n c) := by rw [HN.out]; exact (blk_cell hb2' 0).trans rfl
        have f0' : w2.frozen? ⟨g, 0, none⟩ = false := blk_frozen hb2' 0
        have HCUT := Aside0.mk (RdAt.cut hb2' (Kd.C_below HC.out HB2.out) HCC.out HF.out HR.out (HM.out.below HB2.out) (i + 1) (by have := HIN.out; rw [HN.out] at this; omega) A' HA'.out)
        rw [← HN.out] at HCUT
        clear hEq hb2'
        go_wp2_with (fail)
        go_ret2
        rw [HU.out]
        exact ⟨rfl, HCUT.out, (Fr.of_below HB2.out H.out.lt).trans (Fr.set _ _ _ _)⟩
      · have HU := Aside0.mk (show untilF bs e stop 10 = (0, false, [], 4) by
          unfold untilF
          rw [← HP.out, HIE.out, if_neg (by omega), Int.toNat_natCast]
          have hno : numOf (strOfNums (bs.take i)) = none := by
            rw [← HS.out]
            unfold numOf
            rw [HV.out]
            simp only []
            rw [if_neg (by rw [← HFS.out]; exact hEq)]
          rw [hno])
        have hne : (fs.toList == s.toList) = false := by
          rw [beq_eq_false_iff_ne]
          intro hh
          exact hEq (ba_inj hh)
        clear hEq hcut2
        go_wp2_with (fail)
        refine (fail_any g bs e 4 _ (H.out.below HB2.out)).mono ?_
        rintro en w3 ⟨rfl, hr1, hf1⟩
        have HR1 := Aside0.mk hr1
        have HF1 := Aside0.mk (Fr.trans (Fr.of_below HB2.out H.out.lt) hf1)
        clear hr1 hf1
        go_wp2_with (fail)
        go_ret2
        rw [HU.out]
        exact ⟨rfl, HR1.out, HF1.out⟩
    · have HU := Aside0.mk (show untilF bs e stop 10 = (0, false, [], 4) by
        unfold untilF
        rw [← HP.out, HIE.out, if_neg (by omega), Int.toNat_natCast]
        have hno : numOf (strOfNums (bs.take i)) = none := by
          rw [← HS.out]
          unfold numOf
          split
          · rename_i v2 hv2
            exact absurd hv2 (hnv v2)
          · rfl
        rw [hno])
      clear hnv hcut2
      go_wp2_with (fail)
      refine (fail_any g bs e 4 _ (H.out.below HB1.out)).mono ?_
      rintro en w3 ⟨rfl, hr1, hf1⟩
      have HR1 := Aside0.mk hr1
      have HF1 := Aside0.mk (Fr.trans (Fr.of_below HB1.out H.out.lt) hf1)
      clear hr1 hf1
      go_wp2_with (fail)
      go_ret2
      rw [HU.out]
      exact ⟨rfl, HR1.out, HF1.out⟩
end
/-! ### Text -/
/-- What Text answers, and what it leaves. -/
def textF (bs : List Int) (e : Int) (most : Int) : ByteArray × List Int × Int :=
  if e ≠ 0 then (⟨#[]⟩, bs, e) else match bs with
    | [] => (⟨#[]⟩, [], 3)
    | b :: t => if b < 48 ∨ 57 < b then (⟨#[]⟩, [], 4) else
      if (untilF (b :: t) 0 58 10).2.1 = false then (⟨#[]⟩, (untilF (b :: t) 0 58 10).2.2.1, (untilF (b :: t) 0 58 10).2.2.2)
      else if 1000000000 < (untilF (b :: t) 0 58 10).1 then (⟨#[]⟩, [], 4)
      else if most < (untilF (b :: t) 0 58 10).1 then (⟨#[]⟩, [], 5)
      else if ((untilF (b :: t) 0 58 10).2.2.1.length : Int) < (untilF (b :: t) 0 58 10).1 then (⟨#[]⟩, [], 3)
      else (strOfNums ((untilF (b :: t) 0 58 10).2.2.1.take (untilF (b :: t) 0 58 10).1.toNat), (untilF (b :: t) 0 58 10).2.2.1.drop (untilF (b :: t) 0 58 10).1.toNat, (untilF (b :: t) 0 58 10).2.2.2)
theorem numOf_itoa {s : ByteArray} {v : Int} (h : numOf s = some v) : s.data.toList = Lib.itoa v ∧ -9223372036854775808 ≤ v ∧ v ≤ 9223372036854775807 := by
  unfold numOf at h
  split at h
  · rename_i v2 hv
    split at h
    · rename_i hs
      obtain rfl := Option.some.inj h
      have hb := Lib.parseIntB_bounds hv
      refine ⟨by rw [← hs], by have := hb.1; simpa using this, by have := hb.2; simp at this; omega⟩
    · cases h
  · cases h
theorem untilF_true {bs : List Int} {e stop : Int} {long : Nat} {v : Int} {r : List Int} {e2 : Int} (h : untilF bs e stop long = (v, true, r, e2)) :
    ∃ i : Nat, i < (bs.take (long + 1)).length ∧ (bs.take (long + 1))[i]? = some stop ∧ (∀ x ∈ bs.take i, x ≠ stop) ∧ numOf (strOfNums (bs.take i)) = some v ∧ r = bs.drop (i + 1) ∧ e2 = e := by
  unfold untilF at h
  rcases idxI_cases (bs.take (long + 1)) stop with ⟨hneg, _⟩ | ⟨i, hi, hie, hia, hib⟩
  · rw [hneg, if_pos rfl] at h
    cases h
  · rw [hie, if_neg (by omega), Int.toNat_natCast] at h
    split at h
    · rename_i v2 hv
      injection h with h1 h2
      injection h2 with _ h3
      injection h3 with h3 h4
      subst h1 h3 h4
      refine ⟨i, hi, by rw [List.getElem?_eq_getElem hi, hia], fun x hx => ?_, hv, rfl, rfl⟩
      obtain ⟨j, hj, rfl⟩ := List.getElem_of_mem hx
      rw [List.length_take] at hj hi
      have := hib j (by omega)
      rw [List.getElem_take] at this ⊢
      exact this
    · cases h
theorem strOf_head {l : List Int} {b : Int} {t : List Int} (h : l = b :: t) (h0 : 0 ≤ b) (h1 : b ≤ 255) : (strOfNums l).data.toList.head?.map (·.toNat) = some b.toNat := by
  subst h
  unfold strOfNums
  simp
  omega
theorem until_nat {b : Int} {t : List Int} {e : Int} {v : Int} {r : List Int} {e2 : Int} (hb : 48 ≤ b) (hb2 : b ≤ 57) (h : untilF (b :: t) e 58 10 = (v, true, r, e2)) : 0 ≤ v ∧ v ≤ 9223372036854775807 := by
  obtain ⟨i, hi, his, _, hv, _, _⟩ := untilF_true h
  obtain ⟨h1, h2, h3⟩ := numOf_itoa hv
  refine ⟨?_, h3⟩
  cases i with
  | zero =>
    rw [List.getElem?_eq_getElem hi] at his
    simp at his
    omega
  | succ i =>
    rcases Int.lt_or_le v 0 with hneg | hpos
    · exfalso
      have hh := strOf_head (l := (b :: t).take (i + 1)) (b := b) (t := t.take i) (by simp) (by omega) (by omega)
      rw [h1] at hh
      unfold Lib.itoa at hh
      rw [if_pos hneg] at hh
      simp at hh
      omega
    · exact hpos
set_option maxHeartbeats 4000000 in
set_option maxRecDepth 100000 in
theorem text_any (g : Nat) (bs : List Int) (e most : Int) (w : World) (h : RdAt w g bs e) (hT : TabE w) (hn : bs.length ≤ 140737488351232) (hm : 0 ≤ most) (hm2 : most ≤ 1000000000) :
    Calls Tryd.prog 26 #[.pointer (some ⟨g, 0, none⟩), .int .i64 most] w fun en w' => en = .returned (.string (textF bs e most).1) ∧ RdAt w' g (textF bs e most).2.1 (textF bs e most).2.2 ∧ Fr w w' g := by
  have H := Aside0.mk h
  have HT := Aside0.mk hT
  by_cases he : e = 0
  · subst he
    cases bs with
    | nil =>
      clear h hT hn
      go_enter Tryd.func26, Tryd.ntmps26
      go_wp2_with (fail)
      refine (first_end g _ H.out).mono ?_
      rintro en w1 ⟨rfl, hr, hf⟩
      have HR := Aside0.mk hr
      have HF := Aside0.mk hf
      clear hr hf
      go_wp2_with (fail)
      go_ret
      exact ⟨rfl, HR.out, HF.out⟩
    | cons b t =>
      have HF := Aside0.mk (first_some g b t w h)
      by_cases hd : b < 48 ∨ 57 < b
      · have HU := Aside0.mk (show textF (b :: t) 0 most = (⟨#[]⟩, [], 4) by
          unfold textF
          rw [if_neg (by simp)]
          simp only [if_pos hd])
        have hcase : decide (b < 48) = true ∨ (decide (b < 48) = false ∧ decide (b > 57) = true ∧ decide (57 < b) = true) := by
          rcases hd with hd | hd
          · exact .inl (by simpa using hd)
          · by_cases hb : b < 48
            · exact .inl (by simpa using hb)
            · exact .inr ⟨by simpa using hb, by simpa using hd, by simpa using hd⟩
        clear h hT hn hd
        rcases hcase with hb1 | ⟨hb1, hb2, hb3⟩
        all_goals
          go_enter Tryd.func26, Tryd.ntmps26
          go_wp2_with (fail)
          refine HF.out.mono ?_
          rintro en w1 ⟨rfl, rfl⟩
          go_wp2_with (fail)
          refine (fail_any g (b :: t) 0 4 _ H.out).mono ?_
          rintro en w2 ⟨rfl, hr, hf⟩
          have HR := Aside0.mk hr
          have HF2 := Aside0.mk hf
          clear hr hf
          go_wp2_with (fail)
          go_ret
          rw [HU.out]
          exact ⟨rfl, HR.out, HF2.out⟩
      · have hb1 : decide (b < 48) = false := by simp; omega
        have hb2 : decide (b > 57) = false := by simp; omega
        have hb3 : decide (57 < b) = false := by simp; omega
        have HD := Aside0.mk hd
        have HUN := Aside0.mk (fun W hW hTW => until10_any g (b :: t) 0 58 W hW hTW hn)
        have HNAT := Aside0.mk (fun v r e2 => until_nat (b := b) (t := t) (e := 0) (v := v) (r := r) (e2 := e2) (by omega) (by omega))
        have HLEN := Aside0.mk (show ∀ v r e2, untilF (b :: t) 0 58 10 = (v, true, r, e2) → r.length ≤ 140737488351232 from fun v r e2 hu => by
          obtain ⟨i, _, _, _, _, hr, _⟩ := untilF_true hu
          rw [hr, List.length_drop]; omega)
        have HTX := Aside0.mk (show textF (b :: t) 0 most = (if (untilF (b :: t) 0 58 10).2.1 = false then (⟨#[]⟩, (untilF (b :: t) 0 58 10).2.2.1, (untilF (b :: t) 0 58 10).2.2.2)
            else if 1000000000 < (untilF (b :: t) 0 58 10).1 then (⟨#[]⟩, [], 4)
            else if most < (untilF (b :: t) 0 58 10).1 then (⟨#[]⟩, [], 5)
            else if ((untilF (b :: t) 0 58 10).2.2.1.length : Int) < (untilF (b :: t) 0 58 10).1 then (⟨#[]⟩, [], 3)
            else (strOfNums ((untilF (b :: t) 0 58 10).2.2.1.take (untilF (b :: t) 0 58 10).1.toNat), (untilF (b :: t) 0 58 10).2.2.1.drop (untilF (b :: t) 0 58 10).1.toNat, (untilF (b :: t) 0 58 10).2.2.2)) by
          unfold textF
          rw [if_neg (by simp)]
          simp only [if_neg hd])
        clear h hT hn hd
        go_enter Tryd.func26, Tryd.ntmps26
        go_wp2_with (fail)
        refine HF.out.mono ?_
        rintro en w1 ⟨rfl, rfl⟩
        go_wp2_with (fail)
        have hun := HUN.out _ H.out HT.out
        obtain ⟨u, hu⟩ : ∃ u, u = untilF (b :: t) 0 58 10 := ⟨_, rfl⟩
        rw [← hu] at hun
        obtain ⟨v, ok, r, e2⟩ := u
        refine hun.mono ?_
        rintro en w2 ⟨rfl, hr, hf⟩
        have HU := Aside0.mk hu.symm
        have HR := Aside0.mk (show RdAt w2 g r e2 from hr)
        have HF2 := Aside0.mk hf
        clear hun hu hr hf HUN
        cases ok with
        | false =>
          go_wp2_with (fail)
          go_ret
          rw [HTX.out, HU.out]
          exact ⟨rfl, HR.out, HF2.out⟩
        | true =>
          obtain ⟨hv0, hv1⟩ := HNAT.out v r e2 HU.out
          obtain ⟨m, rfl⟩ := Int.eq_ofNat_of_zero_le hv0
          have HRL := Aside0.mk (HLEN.out _ r e2 HU.out)
          clear HNAT HLEN hv0
          by_cases h1 : (1000000000 : Int) < (m : Int)
          · have HX := Aside0.mk h1
            have q1 : decide ((m : Int) > 1000000000) = true := by simp; omega
            have q2 : decide ((1000000000 : Int) < (m : Int)) = true := by simp; omega
            have q3 : decide (1000000000 < m) = true := by simp; omega
            clear h1
            go_wp2_with (fail)
            refine (fail_any g r e2 4 _ HR.out).mono ?_
            rintro en w3 ⟨rfl, hr, hf⟩
            have HR3 := Aside0.mk hr
            have HF3 := Aside0.mk hf
            clear hr hf
            go_wp2_with (fail)
            go_ret
            rw [HTX.out, HU.out]
            simp only [Bool.true_eq_false, if_false]
            rw [if_pos (by have := HX.out; omega)]
            exact ⟨rfl, HR3.out, HF2.out.trans HF3.out⟩
          · have HX := Aside0.mk h1
            have q1 : decide ((m : Int) > 1000000000) = false := by simp; omega
            have q2 : decide ((1000000000 : Int) < (m : Int)) = false := by simp; omega
            have q3 : decide (1000000000 < m) = false := by simp; omega
            have hmm : (m : Int) ≤ 1000000000 := by omega
            clear h1
            by_cases h2 : most < (m : Int)
            · have HX2 := Aside0.mk h2
              have q4 : decide ((m : Int) > most) = true := by simpa using h2
              have q5 : decide (most < (m : Int)) = true := by simpa using h2
              clear h2
              go_wp2_with (fail)
              refine (fail_any g r e2 5 _ HR.out).mono ?_
              rintro en w3 ⟨rfl, hr, hf⟩
              have HR3 := Aside0.mk hr
              have HF3 := Aside0.mk hf
              clear hr hf
              go_wp2_with (fail)
              go_ret
              rw [HTX.out, HU.out]
              simp only [Bool.true_eq_false, if_false]
              rw [if_neg (by have := HX.out; omega), if_pos (by have := HX2.out; omega)]
              exact ⟨rfl, HR3.out, HF2.out.trans HF3.out⟩
            · have HX2 := Aside0.mk h2
              have q4 : decide ((m : Int) > most) = false := by simpa using h2
              have q5 : decide (most < (m : Int)) = false := by simpa using h2
              clear h2
              obtain ⟨A, c, hb, hC, hc, hf, hr, hM⟩ := HR.out
              obtain ⟨n, hnn⟩ : ∃ n, n = r.length := ⟨_, rfl⟩
              have HN := Aside0.mk hnn
              have h0 : w2.cell? ⟨g, 0, none⟩ = some (.slice A n c) := by rw [hnn]; exact (blk_cell hb 0).trans rfl
              by_cases h3 : (n : Int) < (m : Int)
              · have HX3 := Aside0.mk h3
                have q6 : decide ((m : Int) > (n : Int)) = true := by simp; omega
                have q7 : decide ((n : Int) < (m : Int)) = true := by simp; omega
                have q8 : decide (n < m) = true := by simp; omega
                clear h3 hb hC hc hf hr hM hnn
                go_wp2_with (fail)
                refine (fail_any g r e2 3 _ HR.out).mono ?_
                rintro en w3 ⟨rfl, hr, hf⟩
                have HR3 := Aside0.mk hr
                have HF3 := Aside0.mk hf
                clear hr hf
                go_wp2_with (fail)
                go_ret
                rw [HTX.out, HU.out]
                have HX4 : ((r.length : Nat) : Int) < (m : Int) := by have := HX3.out; rw [HN.out] at this; omega
                simp only [Bool.true_eq_false, if_false]
                rw [if_neg (by have := HX.out; omega), if_neg (by have := HX2.out; omega), if_pos (by omega)]
                exact ⟨rfl, HR3.out, HF2.out.trans HF3.out⟩
              · have HX3 := Aside0.mk h3
                have q6 : decide ((m : Int) > (n : Int)) = false := by simp; omega
                have q7 : decide ((n : Int) < (m : Int)) = false := by simp; omega
                have q8 : decide (n < m) = false := by simp; omega
                have hz : (Tryd.prog.info? 5).map (fun i => i.size) = some 1 := by kernel_rfl
                obtain ⟨i0, hi0, _⟩ := Option.map_eq_some_iff.1 hz
                have hmn : m ≤ n := by omega
                have hcut1 := cut_to (P := Tryd.prog) 36 5 .i64 Tryd.underlying36 hi0 A n c (m : Int) (by omega) (by omega) (by omega)
                rw [Int.toNat_natCast] at hcut1
                have hconv : (convert 36 9 (.slice A m c)).run Tryd.prog w2 = .ok (.string (strOfNums (r.take m))) w2 := by
                  have h1 := Kd.C_take hC (m := m) (by omega)
                  have e1 : (r.take m).length = m := by rw [List.length_take]; omega
                  rw [e1] at h1
                  exact Kd.C_string Tryd.underlying36 Tryd.underlying5 Tryd.underlying9 h1
                obtain ⟨A', hA', hcut2⟩ := cut_bytes A n c m hmn
                have f0 : w2.frozen? ⟨g, 0, none⟩ = false := blk_frozen hb 0
                have HCUT := Aside0.mk (RdAt.cut hb hC hc hf hr hM m (by omega) A' hA')
                rw [← HN.out] at HCUT
                clear h3 hb hC hc hf hr hM hnn hA' hz hmn
                go_wp2_with (fail)
                go_ret
                rw [HTX.out, HU.out]
                have HX4 : ¬ ((r.length : Nat) : Int) < (m : Int) := by have := HX3.out; rw [HN.out] at this; omega
                simp only [Bool.true_eq_false, if_false, Int.toNat_natCast]
                rw [if_neg (by have := HX.out; omega), if_neg (by have := HX2.out; omega), if_neg (by omega)]
                exact ⟨rfl, HCUT.out, HF2.out.trans (Fr.set _ _ _ _)⟩
  · have HF := Aside0.mk (first_err g bs e w h he)
    have HE := Aside0.mk he
    clear h he hT hn
    go_enter Tryd.func26, Tryd.ntmps26
    go_wp2_with (fail)
    refine HF.out.mono ?_
    rintro en w1 ⟨rfl, rfl⟩
    go_wp2_with (fail)
    go_ret
    unfold textF
    rw [if_pos HE.out]
    exact ⟨rfl, H.out, Fr.refl _ _⟩

end Go.Proofs.YtpbemhjiffnamaaDoor.RD
