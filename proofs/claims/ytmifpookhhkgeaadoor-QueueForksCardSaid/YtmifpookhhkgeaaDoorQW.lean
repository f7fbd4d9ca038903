/- awake, what every right program takes of two entries. -/
import Derived.Test.YtmifpookhhkgeaaDoorQP
set_option linter.unusedVariables false
set_option linter.unusedSimpArgs false
namespace Go.Proofs.YtmifpookhhkgeaaDoor.Q
open Go.RowKit Go.Lib Go.Proofs.YtmifpookhhkgeaaDoorW.PrintWords Go.Proofs.YtmifpookhhkgeaaDoorW.PrintMore Go.Proofs.YtmifpookhhkgeaaDoor.P Go.Proofs.YtmifpookhhkgeaaDoor.G
def oneE (key : ByteArray) : S27 := ⟨key, 1, 0, ⟨#[]⟩, 5⟩
theorem one_any (key : ByteArray) (w : World) : Calls Tryd.prog 10 #[.string key] w fun e w' => e = .returned (encE (oneE key)) ∧ Below w.heap.size w w' :=
  watchfirelaw14_one.calls key _ _ _ _ _ w rfl
theorem limit_any (a r : Int) (w : World) (h : queue_Limit.f a = some r) : Calls Tryd.prog 19 #[.int .i64 a] w fun e w' => e = .returned (.int .i64 r) ∧ Below w.heap.size w w' := queue_Limit.calls a r w h
def ek : S27 := oneE ⟨#[107]⟩
def el : S27 := oneE ⟨#[108]⟩
theorem pk1 : pushB [] ek = true := by kernel_rfl
theorem pk2 : pushL [] ek 0 = [⟨ek, 0, 0⟩] := by kernel_rfl
theorem pl1 : pushB [⟨ek, 0, 0⟩] el = true := by kernel_rfl
theorem pl2 : pushL [⟨ek, 0, 0⟩] el 1 = [⟨ek, 0, 0⟩, ⟨el, 0, 1⟩] := by kernel_rfl
theorem pl3 : pushB [⟨ek, 0, 0⟩, ⟨el, 0, 1⟩] el = false := by kernel_rfl
theorem ck_k : checkC ek = 0 := by kernel_rfl
theorem ck_l : checkC el = 0 := by kernel_rfl
theorem tk : takeL [⟨el, 0, 1⟩, ⟨ek, 0, 0⟩] 1000 9 = ([el, ek], [⟨el, 1, 1⟩, ⟨ek, 1, 0⟩]) := by kernel_rfl
theorem lim5 : queue_Limit.f 5 = some 9 := by kernel_rfl
theorem two_sorted {l : List S47} (hp : l.Perm [⟨ek, 0, 0⟩, ⟨el, 0, 1⟩]) (hs : SortedQ l) : l = [⟨el, 0, 1⟩, ⟨ek, 0, 0⟩] := by
  have hlen := hp.length_eq
  match l, hlen with
  | [x, y], _ =>
    have hx := hp.mem_iff.1 (show x ∈ [x, y] by simp)
    have hy := hp.mem_iff.1 (show y ∈ [x, y] by simp)
    have hn : ltQ y x = false := by
      unfold SortedQ at hs
      rw [List.pairwise_cons] at hs
      exact hs.1 y (by simp)
    have hne : (⟨ek, 0, 0⟩ : S47) ≠ ⟨el, 0, 1⟩ := by intro e; injection e with _ _ e3; exact absurd e3 (by decide)
    have hnd : [x, y].Nodup := hp.nodup_iff.2 (by simp [hne])
    simp at hx hy hnd
    rcases hx with rfl | rfl <;> rcases hy with rfl | rfl
    · exact absurd rfl hnd
    · exact absurd hn (by simp [ltQ])
    · rfl
    · exact absurd rfl hnd
set_option maxHeartbeats 4000000 in
theorem awake_any (w : World) (hT : TabS w) : Calls Tryd.prog 14 #[] w fun e w' => e = .returned (.bool true) ∧ Below w.heap.size w w' := by
  have HT := Aside0.mk hT
  clear hT
  go_enter Tryd.func14, Tryd.ntmps14
  go_wp2_with (fail)
  refine (new_any w.heap.size w (Nat.le_refl _)).mono ?_
  rintro e w1 ⟨g, rfl, hq, hg, hb⟩
  have HQ1 := Aside0.mk hq
  have HB1 := Aside0.mk hb
  clear hq hg hb
  go_wp2_with (fail)
  refine (one_any _ w1).mono ?_
  rintro e w2 ⟨rfl, hb⟩
  have HQ2 := Aside0.mk (HQ1.out.below hb)
  have HB2 := Aside0.mk (below_then HB1.out HB1.out.size hb)
  clear hb HQ1 HB1
  unfold encE
  go_wp2_with (fail)
  refine (push_any g _ [] 0 0 ek w w2 HQ2.out HB2.out (by simp) (by omega) (by omega) (by omega) (by omega)).mono ?_
  rintro e w3 ⟨rfl, v3, hx, hq⟩
  rw [pk1] at hq ⊢
  rw [if_pos rfl, if_pos rfl, pk2] at hq
  have HQ3 := Aside0.mk hq
  have HB3 := Aside0.mk (hx.below HQ2.out HB2.out)
  clear hx hq HQ2 HB2
  go_wp2_with (fail)
  refine (one_any _ w3).mono ?_
  rintro e w4 ⟨rfl, hb⟩
  have HQ4 := Aside0.mk (HQ3.out.below hb)
  have HB4 := Aside0.mk (below_then HB3.out HB3.out.size hb)
  clear hb HQ3 HB3
  unfold encE
  go_wp2_with (fail)
  refine (push_any g _ [⟨ek, 0, 0⟩] 1 0 el w w4 HQ4.out HB4.out (by simp) (by omega) (by omega) (by omega) (by omega)).mono ?_
  rintro e w5 ⟨rfl, v5, hx, hq⟩
  rw [pl1] at hq ⊢
  rw [if_pos rfl, if_pos rfl, pl2] at hq
  have HQ5 := Aside0.mk hq
  have HB5 := Aside0.mk (hx.below HQ4.out HB4.out)
  clear hx hq HQ4 HB4
  go_wp2_with (fail)
  refine (one_any _ w5).mono ?_
  rintro e w6 ⟨rfl, hb⟩
  have HQ6 := Aside0.mk (HQ5.out.below hb)
  have HB6 := Aside0.mk (below_then HB5.out HB5.out.size hb)
  clear hb HQ5 HB5
  unfold encE
  go_wp2_with (fail)
  refine (push_any g _ [⟨ek, 0, 0⟩, ⟨el, 0, 1⟩] (1 + 1) 0 el w w6 HQ6.out HB6.out (by simp) (by omega) (by omega) (by omega) (by omega)).mono ?_
  rintro e w7 ⟨rfl, v7, hx, hq⟩
  rw [pl3] at hq ⊢
  rw [if_neg (by simp), if_neg (by simp)] at hq
  have HQ7 := Aside0.mk hq
  have HB7 := Aside0.mk (hx.below HQ6.out HB6.out)
  clear hx hq HQ6 HB6
  go_wp2_with (fail)
  refine (take_any g _ [⟨ek, 0, 0⟩, ⟨el, 0, 1⟩] (1 + 1) 0 1000 9 w w7 HQ7.out HB7.out HT.out (fun x hx => by
    simp at hx
    rcases hx with rfl | rfl
    · exact ck_k
    · exact ck_l) (by simp) (fun x hx => by
    simp at hx
    rcases hx with rfl | rfl <;> simp) (by omega)).mono ?_
  rintro e w8 ⟨t8, v8, l', rfl, hp, hs, hr, hq, hx⟩
  obtain rfl := two_sorted hp hs
  rw [tk] at hr hq
  obtain ⟨A, c, hv, hc, hC⟩ := Kd.R_reads hr
  obtain rfl : t8 = .slice A 2 c := hv
  obtain ⟨ad, hA, f0, _⟩ := at_T27 hC 0 (by omega) (by simp)
  subst hA
  have e0 : (rd_T27 [el, ek] 0).f0 = ⟨#[108]⟩ := rfl
  have f0' : w8.cell? ad = some (.string ⟨#[108]⟩) := by rw [e0] at f0; simpa [Addr.add] using f0
  clear e0
  have HQ8 := Aside0.mk hq
  have HB8 := Aside0.mk (hx.below HQ7.out HB7.out)
  clear hr hq hx hc hC f0 HQ7 HB7 hp hs
  go_wp2_with (fail)
  refine (len_any _ g _ _ _ _ _ HQ8.out).mono ?_
  rintro e w9 ⟨rfl, rfl⟩
  go_wp2_with (fail)
  refine (limit_any 5 9 _ lim5).mono ?_
  rintro e w9 ⟨rfl, hb⟩
  have HB9 := Aside0.mk (below_then HB8.out HB8.out.size hb)
  clear hb
  go_wp2_with (fail)
  go_ret
  exact ⟨rfl, HB9.out⟩
end Go.Proofs.YtmifpookhhkgeaaDoor.Q
