/- The reader of bytes: Int: what it does, as a plain Lean function, with its contract. -/
import Derived.Test.YtpbemhjiffnamaaDoorRE
set_option linter.unusedVariables false
set_option linter.unusedSimpArgs false
namespace Go.Proofs.YtpbemhjiffnamaaDoor.RD
open Go.RowKit Go.Shelf Go.Lib Go.Proofs.YtpbemhjiffnamaaDoorW.PrintWords Go.Proofs.YtpbemhjiffnamaaDoorW.PrintMore Go.Proofs.YtpbemhjiffnamaaDoor.G Go.Proofs.YtpbemhjiffnamaaDoor.P
section
attribute [local go_sem] min_two min2_mn
set_option maxHeartbeats 4000000 in
set_option maxRecDepth 100000 in
theorem until20_any (g : Nat) (bs : List Int) (e stop : Int) (w : World) (h : RdAt w g bs e) (hT : TabE w) (hn : bs.length ≤ 140737488351232) :
    Calls Tryd.prog 42 #[.pointer (some ⟨g, 0, none⟩), .int .u8 stop, .int .i64 20] w fun en w' => en = .returned (.tuple #[.int .i64 (untilF bs e stop 20).1, .bool (untilF bs e stop 20).2.1]) ∧ RdAt w' g (untilF bs e stop 20).2.2.1 (untilF bs e stop 20).2.2.2 ∧ Fr w w' g := by
  have H := Aside0.mk h
  have HT := Aside0.mk hT
  obtain ⟨A, c, hb, hC, hc, hf, hr, hM⟩ := h
  have HM := Aside0.mk hM
  clear hM
  obtain ⟨K, hK⟩ : ∃ K : Nat, K = (bs.take (20 + 1)).length := ⟨_, rfl⟩
  have hKl : K = min (20 + 1) bs.length := by rw [hK, List.length_take]
  have hKn : K ≤ bs.length := by omega
  have hK11 : K ≤ 20 + 1 := by omega
  have hCK : Kd.C (Kd.int .u8) w A K (bs.take (20 + 1)) := by
    have e1 : bs.take (20 + 1) = bs.take K := by rw [hKl, List.take_eq_take_min]
    rw [hK, e1]
    exact Kd.C_take hC hKn
  obtain ⟨p, hp⟩ : ∃ p, p = bs.take (20 + 1) := ⟨_, rfl⟩
  have HP := Aside0.mk hp
  rw [← hp] at hK hCK
  have HIX := Aside0.mk (fun m : Nat => idx_any A c p stop (w.drewN m) (by rw [← hK]; exact hCK) (by rw [← hK]; omega))
  rw [← hK] at HIX
  have hz : (Tryd.prog.info? 5).map (fun i => i.size) = some 1 := by kernel_rfl
  obtain ⟨i0, hi0, _⟩ := Option.map_eq_some_iff.1 hz
  obtain ⟨n, hnn⟩ : ∃ n, n = bs.length := ⟨_, rfl⟩
  have hcut := cut_to (P := Tryd.prog) 36 5 .i64 Tryd.underlying36 hi0 A n c (K : Int) (by omega) (by omega) (by omega)
  rw [Int.toNat_natCast] at hcut
  have hmn : mn (n : Int) (20 + 1) = (K : Int) := by unfold mn; split <;> omega
  have h0 : w.cell? ⟨g, 0, none⟩ = some (.slice A n c) := by rw [hnn]; exact (blk_cell hb 0).trans rfl
  have HB := Aside0.mk hb
  have HC := Aside0.mk hC
  have HCC := Aside0.mk hc
  have HF := Aside0.mk hf
  have HR := Aside0.mk hr
  have HN := Aside0.mk hnn
  have HK := Aside0.mk hK
  have HKL := Aside0.mk (And.intro hKl hKn)
  have HNB := Aside0.mk hn
  obtain ⟨ix, hix⟩ : ∃ ix, ix = idxI p stop := ⟨_, rfl⟩
  have HX := Aside0.mk hix
  rw [← hix] at HIX
  simp only [Int.reduceAdd] at hmn
  clear hCK hp hK hb hC hc hf hr hnn hKl hKn hK11 hz hn hT hix
  rcases idxI_cases p stop with ⟨hneg, _⟩ | ⟨i, hi, hie, hia, hib⟩
  · by_cases hl : 20 < n
    · have HU := Aside0.mk (show untilF bs e stop 20 = (0, false, [], 4) by
        unfold untilF
        rw [← HP.out, hneg, if_pos rfl, if_pos (by rw [← HN.out]; exact hl)])
      have hix2 := HX.out
      rw [hneg] at hix2
      subst hix2
      have hgt : decide ((n : Int) > 20) = true := by simp; omega
      have hlt : decide ((20 : Int) < (n : Int)) = true := by simp; omega
      have hlt2 : decide (20 < n) = true := by simp; omega
      clear hl hneg
      go_enter Tryd.func42, Tryd.ntmps42
      go_wp2_with (fail)
      go_quiet ((go_at_call 47; exact Calls.quiet_of (HIX.out _)))
      clear HIX hcut hmn
      go_wp2_with (fail)
      refine (fail_any g bs e 4 _ (H.out.drewN _)).mono ?_
      rintro en w1 ⟨rfl, hr1, hf1⟩
      have HR1 := Aside0.mk hr1
      have HF1 := Aside0.mk (Fr.trans (Fr.of_below (pw_below_drewN (Below.refl _ w) _) H.out.lt) hf1)
      clear hr1 hf1 h0
      go_wp2_with (fail)
      go_ret2
      rw [HU.out]
      exact ⟨rfl, HR1.out, HF1.out⟩
    · have HU := Aside0.mk (show untilF bs e stop 20 = (0, false, [], 3) by
        unfold untilF
        rw [← HP.out, hneg, if_pos rfl, if_neg (by rw [← HN.out]; exact hl)])
      have hix2 := HX.out
      rw [hneg] at hix2
      subst hix2
      have hgt : decide ((n : Int) > 20) = false := by simp; omega
      have hlt : decide ((20 : Int) < (n : Int)) = false := by simp; omega
      have hlt2 : decide (20 < n) = false := by simp; omega
      clear hl hneg
      go_enter Tryd.func42, Tryd.ntmps42
      go_wp2_with (fail)
      go_quiet ((go_at_call 47; exact Calls.quiet_of (HIX.out _)))
      clear HIX hcut hmn
      go_wp2_with (fail)
      refine (fail_any g bs e 3 _ (H.out.drewN _)).mono ?_
      rintro en w1 ⟨rfl, hr1, hf1⟩
      have HR1 := Aside0.mk hr1
      have HF1 := Aside0.mk (Fr.trans (Fr.of_below (pw_below_drewN (Below.refl _ w) _) H.out.lt) hf1)
      clear hr1 hf1 h0
      go_wp2_with (fail)
      go_ret2
      rw [HU.out]
      exact ⟨rfl, HR1.out, HF1.out⟩
  · have hix2 := HX.out
    rw [hie] at hix2
    subst hix2
    have HIE := Aside0.mk hie
    have hiK : i < K := by rw [HK.out]; exact hi
    have hin : i < n := by have := HKL.out.2; rw [← HN.out] at this; omega
    have hlt0 : decide ((i : Int) < 0) = false := by simp
    have hcut1 := cut_to (P := Tryd.prog) 36 5 .i64 Tryd.underlying36 hi0 A n c (i : Int) (by omega) (by omega) (by have := HCC.out; rw [← HN.out] at this; exact this)
    rw [Int.toNat_natCast] at hcut1
    have hCi : ∀ W, Kd.C (Kd.int .u8) W A bs.length bs → (convert 36 9 (.slice A i c)).run Tryd.prog W = .ok (.string (strOfNums (bs.take i))) W := fun W hW => by
      have h1 := Kd.C_take hW (m := i) (by rw [← HN.out]; omega)
      have e1 : (bs.take i).length = i := by rw [List.length_take, ← HN.out]; omega
      rw [e1] at h1
      exact Kd.C_string Tryd.underlying36 Tryd.underlying5 Tryd.underlying9 h1
    have hconv := fun m : Nat => hCi (w.drewN m) HC.out
    obtain ⟨s, hs⟩ : ∃ s, s = strOfNums (bs.take i) := ⟨_, rfl⟩
    have hss : s.size ≤ 140737488351232 := by
      rw [hs]
      have h1 : (strOfNums (bs.take i)).size = (bs.take i).length := by simp [strOfNums, ByteArray.size]
      have h2 := HNB.out
      rw [h1, List.length_take]
      omega
    have HS := Aside0.mk hs
    have HSS := Aside0.mk hss
    rw [← hs] at hconv
    have hib2 : (i : Int) ≤ 140737488351232 := by
      have h2 := HNB.out
      rw [← HN.out] at h2
      omega
    obtain ⟨A', hA', hcut2⟩ := cut_bytes A n c (i + 1) (by omega)
    rw [show ((i + 1 : Nat) : Int) = (i : Int) + 1 from by omega] at hcut2
    have HA' := Aside0.mk hA'
    clear hA'
    clear hs hss hie hi hia hib hCi hlt0
    have hlt0 : decide ((i : Int) < 0) = false := by simp
    clear hiK
    have HIN := Aside0.mk hin
    clear hin
    go_enter Tryd.func42, Tryd.ntmps42
    go_wp2_with (fail)
    go_quiet ((go_at_call 47; exact Calls.quiet_of (HIX.out _)))
    clear HIX hcut hmn
    go_wp2_with (fail)
    refine (parse_any s HSS.out _ (HT.out.below (pw_below_drewN (Below.refl _ w) _))).mono ?_
    rintro en w1 ⟨hb1, hcase⟩
    have HB1 := Aside0.mk (below_then (pw_below_drewN (Below.refl _ w) _) (Nat.le_refl _) hb1)
    clear hb1 hconv hcut1 h0
    rcases hcase with ⟨v, hv, rfl⟩ | ⟨hnv, v, t, q, rfl⟩
    · have HV := Aside0.mk hv
      have hvb := Lib.parseIntB_bounds hv
      obtain ⟨fs, hfs⟩ : ∃ fs : ByteArray, fs = ⟨(Lib.itoa v).toArray⟩ := ⟨_, rfl⟩
      have HFS := Aside0.mk hfs
      have hfm := format_any v (by have := hvb.1; simpa using this) (by have := hvb.2; simp at this; omega) w1 (HT.out.below HB1.out)
      rw [← hfs] at hfm
      have HFM := Aside0.mk hfm
      clear hv hvb hfs hfm
      go_wp2_with (fail)
      refine HFM.out.mono ?_
      rintro en w2 ⟨rfl, hb2⟩
      have HB2 := Aside0.mk (below_then HB1.out HB1.out.size hb2)
      clear hb2 HFM
      by_cases hEq : fs = s
      · have HU := Aside0.mk (show untilF bs e stop 20 = (v, true, bs.drop (i + 1), e) by
          unfold untilF
          rw [← HP.out, HIE.out, if_neg (by omega), Int.toNat_natCast]
          have hno : numOf (strOfNums (bs.take i)) = some v := by
            rw [← HS.out]
            unfold numOf
            rw [HV.out]
            simp only []
            rw [if_pos (by rw [← HFS.out]; exact hEq)]
          rw [hno])
        have hne : (fs.toList == s.toList) = true := by rw [hEq]; simp
        have hb2' := keep_rd HB.out HB2.out
        have h0' : w2.cell? ⟨g, 0, none⟩ = some (.slice A n c) := by rw [HN.out]; exact (blk_cell hb2' 0).trans rfl
        have f0' : w2.frozen? ⟨g, 0, none⟩ = false := blk_frozen hb2' 0
        have HCUT := Aside0.mk (RdAt.cut hb2' (Kd.C_below HC.out HB2.out) HCC.out HF.out HR.out (HM.out.below HB2.out) (i + 1) (by have := HIN.out; rw [HN.out] at this; omega) A' HA'.out)
        rw [← HN.out] at HCUT
        clear hEq hb2'
        go_wp2_with (fail)
        go_ret2
        rw [HU.out]
        exact ⟨rfl, HCUT.out, (Fr.of_below HB2.out H.out.lt).trans (Fr.set _ _ _ _)⟩
      · have HU := Aside0.mk (show untilF bs e stop 20 = (0, false, [], 4) by
          unfold untilF
          rw [← HP.out, HIE.out, if_neg (by omega), Int.toNat_natCast]
          have hno : numOf (strOfNums (bs.take i)) = none := by
            rw [← HS.out]
            unfold numOf
            rw [HV.out]
            simp only []
            rw [if_neg (by rw [← HFS.out]; exact hEq)]
          rw [hno])
        have hne : (fs.toList == s.toList) = false := by
          rw [beq_eq_false_iff_ne]
          intro hh
          exact hEq (ba_inj hh)
        clear hEq hcut2
        go_wp2_with (fail)
        refine (fail_any g bs e 4 _ (H.out.below HB2.out)).mono ?_
        rintro en w3 ⟨rfl, hr1, hf1⟩
        have HR1 := Aside0.mk hr1
        have HF1 := Aside0.mk (Fr.trans (Fr.of_below HB2.out H.out.lt) hf1)
        clear hr1 hf1
        go_wp2_with (fail)
        go_ret2
        rw [HU.out]
        exact ⟨rfl, HR1.out, HF1.out⟩
    · have HU := Aside0.mk (show untilF bs e stop 20 = (0, false, [], 4) by
        unfold untilF
        rw [← HP.out, HIE.out, if_neg (by omega), Int.toNat_natCast]
        have hno : numOf (strOfNums (bs.take i)) = none := by
          rw [← HS.out]
          unfold numOf
          split
          · rename_i v2 hv2
            exact absurd hv2 (hnv v2)
          · rfl
        rw [hno])
      clear hnv hcut2
      go_wp2_with (fail)
      refine (fail_any g bs e 4 _ (H.out.below HB1.out)).mono ?_
      rintro en w3 ⟨rfl, hr1, hf1⟩
      have HR1 := Aside0.mk hr1
      have HF1 := Aside0.mk (Fr.trans (Fr.of_below HB1.out H.out.lt) hf1)
      clear hr1 hf1
      go_wp2_with (fail)
      go_ret2
      rw [HU.out]
      exact ⟨rfl, HR1.out, HF1.out⟩
end

theorem var_set {P : Program} {w : World} {name : String} {cs cells : Array Value} {g j : Nat} {t : TypeId} {m : Nat × Nat} {u : Value} (hb : w.heap[g]? = some (.cells cells t m)) (hs : cs.size ≠ cells.size) (h : w.var? P name = some cs) : (w.setCell ⟨g, j, none⟩ u).var? P name = some cs := by
  unfold World.var? at *
  cases hg : P.globalNamed name with
  | none => simp [hg] at h
  | some k =>
    simp only [hg, Option.bind_some] at h ⊢
    have hk : k ≠ g := by
      intro e
      subst e
      rw [hb] at h
      simp only [Option.some.injEq] at h
      exact hs (by rw [h])
    rw [Below.heap_setCell w _ u k hk]
    exact h
theorem TabE.set {w : World} {cells : Array Value} {g j : Nat} {t : TypeId} {m : Nat × Nat} {u : Value} (hb : w.heap[g]? = some (.cells cells t m)) (h2 : cells.size = 2) (h : TabE w) : TabE (w.setCell ⟨g, j, none⟩ u) := by
  obtain ⟨⟨h1⟩, ⟨tp, p, hs⟩, ⟨tq, q, hr⟩⟩ := h
  exact ⟨⟨var_set hb (by rw [h2]; decide) h1⟩, ⟨tp, p, var_set hb (by rw [h2]; simp) hs⟩, ⟨tq, q, var_set hb (by rw [h2]; simp) hr⟩⟩
/-- What Int answers, and what it leaves. -/
def intF (bs : List Int) (e : Int) : Int × List Int × Int :=
  if e ≠ 0 then (0, bs, e) else match bs with
    | [] => (0, [], 3)
    | b :: t => if b = 105 then ((untilF t 0 101 20).1, (untilF t 0 101 20).2.2.1, (untilF t 0 101 20).2.2.2) else (0, [], 4)
theorem intF_len (bs : List Int) (e : Int) : (intF bs e).2.1.length ≤ bs.length := by
  have until_len : ∀ (bs : List Int) (e stop : Int) (long : Nat), (untilF bs e stop long).2.2.1.length ≤ bs.length := by
    intro bs e stop long
    unfold untilF
    split
    · simp
    · split <;> simp
  unfold intF
  split
  · exact Nat.le_refl _
  · cases bs with
    | nil => exact Nat.le_refl _
    | cons b t =>
      simp only []
      split
      · exact Nat.le_trans (until_len _ _ _ _) (by simp)
      · simp
set_option maxHeartbeats 4000000 in
set_option maxRecDepth 100000 in
theorem int_any (g : Nat) (bs : List Int) (e : Int) (w : World) (h : RdAt w g bs e) (hT : TabE w) (hn : bs.length ≤ 140737488351232) :
    Calls Tryd.prog 27 #[.pointer (some ⟨g, 0, none⟩)] w fun en w' => en = .returned (.int .i64 (intF bs e).1) ∧ RdAt w' g (intF bs e).2.1 (intF bs e).2.2 ∧ Fr w w' g := by
  have H := Aside0.mk h
  have HT := Aside0.mk hT
  by_cases he : e = 0
  · subst he
    cases bs with
    | nil =>
      clear h hT hn
      go_enter Tryd.func27, Tryd.ntmps27
      go_wp2_with (fail)
      refine (first_end g _ H.out).mono ?_
      rintro en w1 ⟨rfl, hr, hf⟩
      have HR := Aside0.mk hr
      have HF := Aside0.mk hf
      clear hr hf
      go_wp2_with (fail)
      go_ret
      exact ⟨rfl, HR.out, HF.out⟩
    | cons b t =>
      have HF := Aside0.mk (first_some g b t w h)
      by_cases hw : b = 105
      · subst hw
        obtain ⟨A, c, hb, hC, hc, hf, hr, hM⟩ := h
        obtain ⟨ad, rfl, _⟩ := head_cell hC
        have h0 : w.cell? ⟨g, 0, none⟩ = some (.slice (some ad) (t.length + 1) c) := (blk_cell hb 0).trans rfl
        have f0 : w.frozen? ⟨g, 0, none⟩ = false := blk_frozen hb 0
        obtain ⟨A', hA', hrun⟩ := cut_bytes (some ad) (t.length + 1) c 1 (by omega)
        have HCUT := Aside0.mk (RdAt.cut hb hC hc hf hr hM 1 (by simp only [List.length_cons]; omega) A' hA')
        simp only [Int.natCast_one, Nat.add_sub_cancel] at hrun
        have HTS := Aside0.mk (TabE.set (j := 0) (u := .slice A' ((105 :: t).length - 1) (c - 1)) hb rfl hT)
        have HFR := Aside0.mk (Fr.set w g 0 (.slice A' ((105 :: t).length - 1) (c - 1)))
        have HU := Aside0.mk (fun W hW hTW => until20_any g t 0 101 W hW hTW (by simp only [List.length_cons] at hn; omega))
        clear hb hC hc hf hr hA' hM hT hn
        go_enter Tryd.func27, Tryd.ntmps27
        go_wp2_with (fail)
        refine HF.out.mono ?_
        rintro en w1 ⟨rfl, rfl⟩
        go_wp2_with (fail)
        obtain ⟨u, hu⟩ : ∃ u, u = untilF t 0 101 20 := ⟨_, rfl⟩
        have hun := HU.out _ HCUT.out HTS.out
        rw [← hu] at hun
        obtain ⟨v, ok, r, e2⟩ := u
        refine Calls.mono hun ?_
        rintro en w2 ⟨rfl, hr, hf⟩
        have HR := Aside0.mk (show RdAt w2 g r e2 from hr)
        have HF2 := Aside0.mk (HFR.out.trans hf)
        have HUU := Aside0.mk hu.symm
        clear hr hf hun hu HU
        go_wp2_with (fail)
        go_ret
        unfold intF
        rw [if_neg (by simp)]
        simp only [if_pos, HUU.out]
        exact ⟨by trivial, HR.out, HF2.out⟩
      · have hbw : (b != 105) = true := bne_iff_ne.2 hw
        clear h hT hn
        go_enter Tryd.func27, Tryd.ntmps27
        go_wp2_with (fail)
        refine HF.out.mono ?_
        rintro en w1 ⟨rfl, rfl⟩
        go_wp2_with (fail)
        refine (fail_any g (b :: t) 0 4 _ H.out).mono ?_
        rintro en w2 ⟨rfl, hr, hf⟩
        have HR := Aside0.mk hr
        have HF2 := Aside0.mk hf
        have HW := Aside0.mk hw
        clear hr hf hw hbw
        go_wp2_with (fail)
        go_ret
        unfold intF
        rw [if_neg (by simp)]
        simp only [if_neg HW.out]
        exact ⟨by trivial, HR.out, HF2.out⟩
  · have HF := Aside0.mk (first_err g bs e w h he)
    have HE := Aside0.mk he
    clear h he hT hn
    go_enter Tryd.func27, Tryd.ntmps27
    go_wp2_with (fail)
    refine HF.out.mono ?_
    rintro en w1 ⟨rfl, rfl⟩
    go_wp2_with (fail)
    go_ret
    unfold intF
    rw [if_pos HE.out]
    exact ⟨by trivial, H.out, Fr.refl _ _⟩
end Go.Proofs.YtpbemhjiffnamaaDoor.RD
