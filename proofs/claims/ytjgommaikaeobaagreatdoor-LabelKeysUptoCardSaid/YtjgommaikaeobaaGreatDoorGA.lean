/- Sort of some pairs; and awake, what every right program makes of two pairs. -/
import Derived.Test.YtjgommaikaeobaaGreatDoorLD
import Derived.Test.YtjgommaikaeobaaGreatDoorReg
set_option linter.unusedVariables false
set_option linter.unusedSimpArgs false
namespace Go.Proofs.YtjgommaikaeobaaGreatDoor.L
open Go.RowKit Go.Shelf Go.Lib Go.Proofs.YtjgommaikaeobaaGreatDoorW.PrintWords Go.Proofs.YtjgommaikaeobaaGreatDoor.P

theorem partsE_perm {l l' : List S37} (h : l'.Perm l) : partsE l' = partsE l := by
  unfold partsE
  have h1 : ∀ p : S37 → Bool, l'.any p = l.any p := fun p => by
    rw [Bool.eq_iff_iff, List.any_eq_true, List.any_eq_true]
    exact ⟨fun ⟨x, hx, hp⟩ => ⟨x, h.mem_iff.1 hx, hp⟩, fun ⟨x, hx, hp⟩ => ⟨x, h.mem_iff.2 hx, hp⟩⟩
  rw [h.length_eq, h1, h1]
theorem parts_le {l : List S37} (h : partsE l = 0) : l.length ≤ 8 := by
  unfold partsE at h
  by_cases h8 : 8 < l.length
  · simp [h8] at h
  · omega
/-- What Sort answers. -/
def SortR (w : World) (l : List S37) (e : Ending) (w' : World) : Prop :=
  (partsE l ≠ 0 ∧ e = .returned (.tuple #[.slice none 0 0, .int .i64 (partsE l)])) ∨
  (partsE l = 0 ∧ ∃ l', l'.Perm l ∧ SortedN l' ∧ ((risesB l' = false ∧ e = .returned (.tuple #[.slice none 0 0, .int .i64 7])) ∨ (risesB l' = true ∧ ∃ v, e = .returned (.tuple #[v, .int .i64 0]) ∧ Kd.R k37 37 w' w.heap.size (fun _ => True) v l')))

set_option maxHeartbeats 1000000 in
theorem sort_any (A : Option Addr) (c : Nat) (l : List S37) (w : World) (h : Kd.C k37 w A l.length l) (hl : 0 < l.length) :
    Calls Tryz.prog 28 #[.slice A l.length c] w fun e w' => SortR w l e w' ∧ Below w.heap.size w w' := by
  have H := Aside0.mk h
  have H1 := Aside0.mk (parts_any A c l w h)
  by_cases hp : partsE l = 0
  · have hl8 := parts_le hp
    have HP := Aside0.mk hp
    rw [hp] at H1
    clear h hp
    go_enter Tryz.func28, Tryz.ntmps28
    go_wp2_with (fail)
    refine H1.out.mono ?_
    rintro e w1 ⟨rfl, hb⟩
    have HB1 := Aside0.mk hb
    have HC1 := Aside0.mk (Kd.C_below H.out hb)
    clear hb H1
    go_wp2_with (fail)
    refine (clone_any A c l w1 HC1.out hl (by omega)).mono ?_
    rintro e w2 ⟨v, rfl, ho, hv, hb⟩
    have HB2 := Aside0.mk (below_then HB1.out HB1.out.size hb)
    have HO := Aside0.mk ho
    have HV := Aside0.mk hv
    clear hb ho hv
    go_wp2_with (fail)
    refine (sortFunc_any v l w2 w1.heap.size HO.out HV.out (by omega)).mono ?_
    rintro e w3 ⟨rfl, l', hp', hs', hr, hb⟩
    have HB3 := Aside0.mk (HB2.out.trans (hb.mono HB1.out.size))
    obtain ⟨A', c', hv', hc', hC'⟩ := Kd.R_reads hr
    have HR := Aside0.mk (Kd.R_lower hr HB1.out.size)
    obtain ⟨n', hn'⟩ : ∃ n', n' = l'.length := ⟨_, rfl⟩
    rw [← hn'] at hv'
    subst hv'
    have HN := Aside0.mk hn'
    have HC' := Aside0.mk hC'
    have HPE := Aside0.mk hp'
    have HS := Aside0.mk hs'
    clear hr hb hp' hs' hC' hn' HO HV
    have HCK := Aside0.mk (check_any A' c' l' w3 HC'.out)
    have hce : checkE l' = endE (risesB l') := by unfold checkE; rw [partsE_perm HPE.out, HP.out, if_pos rfl]
    rw [hce, ← HN.out] at HCK
    clear hce
    go_wp2_with (fail)
    refine HCK.out.mono ?_
    clear HCK
    cases hri : risesB l' with
    | true =>
      rintro e w4 ⟨rfl, hb⟩
      have HB4 := Aside0.mk (below_then HB3.out HB3.out.size hb)
      have HR4 := Aside0.mk (Kd.R_below HR.out hb)
      have HRI := Aside0.mk hri
      clear hb hri
      rw [show endE true = 0 from rfl]
      go_wp2_with (fail)
      go_ret2
      exact ⟨.inr ⟨HP.out, l', HPE.out, HS.out, .inr ⟨HRI.out, _, rfl, HR4.out⟩⟩, HB4.out⟩
    | false =>
      rintro e w4 ⟨rfl, hb⟩
      have HB4 := Aside0.mk (below_then HB3.out HB3.out.size hb)
      have HRI := Aside0.mk hri
      clear hb hri
      rw [show endE false = 4 from rfl]
      go_wp2_with (fail)
      go_ret2
      exact ⟨.inr ⟨HP.out, l', HPE.out, HS.out, .inl ⟨HRI.out, rfl⟩⟩, HB4.out⟩
  · have HP := Aside0.mk hp
    obtain ⟨pe, hpe⟩ : ∃ pe, pe = partsE l := ⟨_, rfl⟩
    rw [← hpe] at hp H1
    have HPE := Aside0.mk hpe
    clear hpe h
    go_enter Tryz.func28, Tryz.ntmps28
    go_wp2_with (fail)
    refine H1.out.mono ?_
    rintro e w1 ⟨rfl, hb⟩
    have HB1 := Aside0.mk hb
    clear hb H1
    go_wp2_with (fail)
    go_ret2
    exact ⟨.inl ⟨HP.out, by rw [← HPE.out]; rfl⟩, HB1.out⟩
def pa : S37 := ⟨⟨#[97]⟩, ⟨#[49]⟩⟩
def pb : S37 := ⟨⟨#[98]⟩, ⟨#[50]⟩⟩
def p0 : S37 := ⟨⟨#[97]⟩, ⟨#[]⟩⟩
end Go.Proofs.YtjgommaikaeobaaGreatDoor.L

namespace Go.Proofs.YtjgommaikaeobaaGreatDoor.L
open Go.RowKit Go.Shelf Go.Lib Go.Proofs.YtjgommaikaeobaaGreatDoorW.PrintWords Go.Proofs.YtjgommaikaeobaaGreatDoor.P
theorem parts_ba : partsE [pb, pa] = 0 := by decide +kernel
theorem check_p0 : checkE [p0] = 6 := by decide +kernel
theorem ba_sorted {l : List S37} (hp : l.Perm [pb, pa]) (hs : SortedN l) : l = [pa, pb] := by
  have hlen := hp.length_eq
  match l, hlen with
  | [x, y], _ =>
    have hx := hp.mem_iff.1 (show x ∈ [x, y] by simp)
    have hy := hp.mem_iff.1 (show y ∈ [x, y] by simp)
    have hn : ltN y x = false := by
      unfold SortedN at hs
      rw [List.pairwise_cons] at hs
      exact hs.1 y (by simp)
    have hne : pa ≠ pb := by intro e; injection e with e1 e2; revert e1; decide
    have hnd : [x, y].Nodup := hp.nodup_iff.2 (by simp; exact fun e => hne e.symm)
    simp at hx hy hnd
    rcases hx with rfl | rfl <;> rcases hy with rfl | rfl
    · exact absurd rfl hnd
    · exact absurd hn (by decide +kernel)
    · rfl
    · exact absurd rfl hnd
theorem rises_ab : risesB [pa, pb] = true := by decide +kernel
end Go.Proofs.YtjgommaikaeobaaGreatDoor.L
namespace Go.Proofs.YtjgommaikaeobaaGreatDoor.G
open Go.RowKit Go.Shelf Go.Lib Go.Proofs.YtjgommaikaeobaaGreatDoorW.PrintWords Go.Proofs.YtjgommaikaeobaaGreatDoor.P Go.Proofs.YtjgommaikaeobaaGreatDoor.L
theorem spair_ext {x y : S37} : x = y ↔ x.f0 = y.f0 ∧ x.f1 = y.f1 := by
  obtain ⟨x0, x1⟩ := x
  obtain ⟨y0, y1⟩ := y
  constructor
  · intro h; injection h with h1 h2; exact ⟨h1, h2⟩
  · rintro ⟨rfl, rfl⟩; rfl
instance : DecidableEq S37 := fun _ _ => decidable_of_iff _ spair_ext.symm
def LSort.f (l0 : List (S37)) : Option ((List (S37)) × Int) := if l0 = [pb, pa] then some ([pa, pb], 0) else none
theorem LSort.calls (A0 : Option Addr) (c0 : Nat) (l0 : List (S37)) (r1 : List (S37)) (r2 : Int) (w : World) (hr0 : Kd.C k37 w A0 l0.length l0) (hc0 : l0.length ≤ c0) (h : LSort.f l0 = some (r1, r2)) :
    Calls Tryz.prog 28 #[.slice A0 l0.length c0] w fun e w' => ∃ v0_ : Value, e = .returned (.tuple #[v0_, .int .i64 r2]) ∧ Kd.R k37 37 w' w.heap.size (fun _ => True) v0_ r1 ∧ Below w.heap.size w w' := by
  unfold LSort.f at h
  by_cases hl : l0 = [pb, pa]
  · rw [if_pos hl] at h
    injection h with h
    injection h with h1 h2
    subst h1 h2 hl
    refine (sort_any A0 c0 [pb, pa] w hr0 (by simp)).mono fun e w' ⟨hs, hb⟩ => ?_
    rcases hs with ⟨hp, rfl⟩ | ⟨hp, l', hpm, hst, ⟨hr, rfl⟩ | ⟨hr, v, rfl, hR⟩⟩
    · exact absurd parts_ba hp
    · rw [ba_sorted hpm hst, rises_ab] at hr; cases hr
    · rw [ba_sorted hpm hst] at hR
      exact ⟨v, rfl, hR, hb⟩
  · rw [if_neg hl] at h; cases h
def LCheck.f (l0 : List (S37)) : Option (Int) := some (checkE l0)
theorem LCheck.calls (A0 : Option Addr) (c0 : Nat) (l0 : List (S37)) (r : Int) (w : World) (hr0 : Kd.C k37 w A0 l0.length l0) (hc0 : l0.length ≤ c0) (h : LCheck.f l0 = some r) :
    Calls Tryz.prog 18 #[.slice A0 l0.length c0] w fun e w' => e = .returned (.int .i64 r) ∧ Below w.heap.size w w' := by
  obtain rfl := Option.some.inj h
  exact check_any A0 c0 l0 w hr0
end Go.Proofs.YtjgommaikaeobaaGreatDoor.G
