/- IntervalAny: the plain law and the walk. -/
import Derived.Test.YtgipdacenppmdaaGreatDoorQS
import Derived.Test.YtgipdacenppmdaaGreatDoorP15
set_option linter.unusedVariables false
set_option linter.unusedSimpArgs false
namespace Go.Proofs.YtgipdacenppmdaaGreatDoor.G
open Go.RowKit Go.Lib Go.Proofs.YtgipdacenppmdaaGreatDoorW.PrintWords Go.Proofs.YtgipdacenppmdaaGreatDoor.P
theorem lany_l0 (l : List S24) (names : List ByteArray) (s : Int) (hb : l.length ≤ 12) (hn : names.length ≤ 12) : ∀ (d j k : Nat), j + d = l.length → 13300 + d < k → (∀ i (h : i < l.length), i < j → Small l[i]) → watchfirelaw26_IntervalAny.l0 k l names s (j : Int) = some true
  | 0, j, k + 1, hj, hk, hx => by
    have hall : ∀ x ∈ l, Small x := fun x hm => by
      obtain ⟨i, hi, rfl⟩ := List.getElem_of_mem hm
      exact hx i hi (by omega)
    have h1 := rany_l0 l names s (by omega) (by omega) hall l.length 0 k (by omega) (by omega)
    rw [show ((0 : Nat) : Int) = 0 from rfl, List.drop_zero] at h1
    rw [watchfirelaw26_IntervalAny.l0, if_neg (by omega)]
    unfold IAny.f watchfireref26_Any.f
    rw [if_pos (by omega), h1]
    simp only [Option.bind_some, if_true, beq_self_eq_true]
    rfl
  | d + 1, j, k + 6, hj, hk, hx => by
    have hjl : j < l.length := by omega
    rw [watchfirelaw26_IntervalAny.l0, if_pos (by omega), if_pos (by omega), rd24 l j hjl, show k + 5 = (k - 1) + 6 by omega, light_f, Option.bind_some, show (k - 1) + 6 = k + 5 by omega]
    by_cases h : Few l[j].f1 l[j].f2 l[j].f3 l[j].f4 l[j].f5 ∧ l[j].f0.size ≤ 200
    · have ih := lany_l0 l names s hb hn d (j + 1) (k + 5) (by omega) (by omega) (fun i hi hij => by
        by_cases e : i = j
        · subst e; exact h
        · exact hx i hi (by omega))
      rw [decide_eq_true h, if_pos rfl, wid (x := (j : Int) + 1) (by omega) (by omega), show (j : Int) + 1 = ((j + 1 : Nat) : Int) by omega, ih]
      by_cases h0 : (j : Int) > 0
      · obtain ⟨i, rfl⟩ : ∃ i, j = i + 1 := ⟨j - 1, by omega⟩
        rw [if_pos h0, wid (x := ((i + 1 : Nat) : Int) - 1) (by omega) (by omega), show ((i + 1 : Nat) : Int) - 1 = (i : Int) by omega, if_pos (by omega), if_pos (by omega), rd24 l i (by omega), rsame_f _ _ _ _ _ _ _ _ _ _ _ _ _ _ h.1 (k + 5) (by omega)]
        obtain ⟨f1, f2, f3, f4, f5⟩ := h.1
        unfold ISame.f
        rw [if_pos ⟨by omega, by omega, by omega, by omega, by omega⟩]
        simp
      · rw [if_neg h0]
    · rw [decide_eq_false h, if_neg (by simp)]
      rfl
  | _, _, 0, _, hk, _ => absurd hk (by omega)
  | _ + 1, _, 1, _, hk, _ => absurd hk (by omega)
  | _ + 1, _, 2, _, hk, _ => absurd hk (by omega)
  | _ + 1, _, 3, _, hk, _ => absurd hk (by omega)
  | _ + 1, _, 4, _, hk, _ => absurd hk (by omega)
  | _ + 1, _, 5, _, hk, _ => absurd hk (by omega)
theorem intervalAny_true (l : List S24) (names : List ByteArray) (s : Int) : watchfirelaw26_IntervalAny.f 14000 l names s = some true := by
  have hj : ∀ b, watchfirelaw26_IntervalAny.j0 14000 l names s b = if b = true then ((IAwake.f).bind fun t283 => (some t283)) else (watchfirelaw26_IntervalAny.l0 13999 l names s 0) := fun b => by rw [watchfirelaw26_IntervalAny.j0]
  unfold watchfirelaw26_IntervalAny.f
  rw [hj, hj]
  by_cases h1 : (l.length : Int) > 12
  · rw [if_pos h1, if_pos rfl]; rfl
  · rw [if_neg h1]
    by_cases h2 : (names.length : Int) > 12
    · rw [decide_eq_true h2, if_pos rfl]; rfl
    · rw [decide_eq_false h2, if_neg (by simp)]
      exact lany_l0 l names s (by omega) (by omega) l.length 0 13999 (by omega) (by omega) (fun i _ h => absurd h (by omega))
theorem openStrs {H : Type} {enc : TypeId × Value → H} {w : World} {base : Nat} {spare : Nat → Bool} {held : Bool} : Opn.Opens enc Tryz.prog w base spare held 45 (Kd.slice 9 Kd.string) (fun l => l.length ≤ maxLen) :=
  (Opn.Opens.slice 9 Tryz.underlying45 (by kernel_rfl) (Opn.Opens.string Tryz.underlying9)).imp fun a h => h.2
theorem intervalAny_walk (A0 : Option Addr) (c0 : Nat) (l : List S24) (A1 : Option Addr) (c1 : Nat) (names : List ByteArray) (s : Int) (w : World) (h0 : Kd.C k24 w A0 l.length l) (g0 : l.length ≤ c0) (h1 : Kd.C Kd.string w A1 names.length names) (g1 : names.length ≤ c1) (hT : TabS w) :
    Calls Tryz.prog 7 #[.slice A0 l.length c0, .slice A1 names.length c1, .int .i64 s] w fun e w' => e = .returned (.bool true) ∧ Below w.heap.size w w' :=
  watchfirelaw26_IntervalAny.calls 14000 A0 c0 l A1 c1 names s true w h0 g0 h1 g1 hT (intervalAny_true l names s)
end Go.Proofs.YtgipdacenppmdaaGreatDoor.G
