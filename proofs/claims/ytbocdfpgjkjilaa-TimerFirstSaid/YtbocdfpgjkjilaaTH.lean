/- TimerFirst in memory: a key keeps the time that it got first. -/
import Derived.Test.YtbocdfpgjkjilaaTG
set_option linter.unusedVariables false
set_option linter.unusedSimpArgs false
namespace Go.Proofs.Ytbocdfpgjkjilaa.T
open Go.RowKit Go.Maps Go.Sort Go.Shelf Go.Proofs.YtbocdfpgjkjilaaW.PrintWords Go.Proofs.Ytbocdfpgjkjilaa.PTimerPlays

/-- Seen of a key that is there. -/
theorem seen_is {L : List S52} {k : ByteArray} {a c : Int} (h : tHas L k = true) : seenB L k a c = false ∧ seenL L k a c = L := by
  have e : seenB L k a c = false := by simp [seenB, h]
  exact ⟨e, by unfold seenL; rw [if_neg (by rw [e]; simp)]⟩
theorem tHas_one (k : ByteArray) (a : Int) : tHas [⟨k, a⟩] k = true := by simp [tHas]
theorem tAt_one (k : ByteArray) (a : Int) : tAt [⟨k, a⟩] k = a := by simp [tAt]

set_option maxHeartbeats 2000000 in
theorem first_any (k : ByteArray) (p q : Int) (A : Option Addr) (n c : Nat) (xs : List Int) (w : World) (hk : k.size ≤ maxLen) (hp : 0 ≤ p ∧ p < 4294967296) (hq : 0 ≤ q ∧ q < 4294967296)
    (hx : Kd.C (Kd.int .u32) w A n xs) (hn : n ≤ c) (hxs : ∀ x ∈ xs, 0 ≤ x ∧ x < 4294967296) :
    Calls Try.prog 3 #[.string k, .agg #[.int .u32 p, .int .u32 q], .slice A n c] w fun e w' => e = .returned (.bool true) ∧ Below w.heap.size w w' := by
  have hlen := hx.1
  have hn2 := hx.2.1
  have HX := Aside0.mk hx
  have HXS := Aside0.mk hxs
  clear hx hxs
  go_enter Try.func3, Try.ntmps3
  go_wp2_with (fail)
  go_quiet (fail)
  obtain ⟨P, hP⟩ : ∃ P, P = p % 1073741824 := ⟨_, rfl⟩
  obtain ⟨R, hR⟩ : ∃ R, R = q % 1073741824 := ⟨_, rfl⟩
  have hP0 : 0 ≤ P ∧ P < 1073741824 := by omega
  have hR0 : 0 ≤ R ∧ R < 1073741824 := by omega
  rw [← hP, ← hR]
  clear hP hR hp hq
  obtain ⟨W, hW⟩ : ∃ W, W = (w.alloc (Obj.cells #[Value.int IntKind.u32 p, Value.int IntKind.u32 q] 23)).drewN nq := ⟨_, rfl⟩
  have HB := Aside0.mk (show Below w.heap.size w W by
    rw [hW]
    exact (below_alloc (Below.refl _ _) _).trans ((Gr.below ⟨nq, #[], by rw [grow_empty]⟩ : Below (w.alloc (Obj.cells #[Value.int IntKind.u32 p, Value.int IntKind.u32 q] 23)).heap.size _ _).mono (by simp)))
  rw [← hW]
  clear hW
  go_wp2_with (fail)
  refine (new_any _).mono ?_
  rintro e w1 ⟨g, b, rfl, ht, hb, hgg, hbb⟩
  have HT := Aside0.mk ht
  have HW := Aside0.mk (below_then HB.out HB.out.size hb)
  have hbb' : w.heap.size ≤ b := Nat.le_trans HB.out.size hbb
  clear ht hb
  go_wp2_with (fail)
  have s0 : seenB [] k P R = true := by simp [seenB, tHas, okT]; omega
  have s1 : seenL [] k P R = [⟨k, P + R⟩] := by unfold seenL; rw [if_pos s0]; simp [putL]
  refine (seen_any g b [] k P R w1 HT.out hk (by decide)).mono ?_
  rintro e w2 ⟨rfl, ht, hgr⟩
  rw [s1] at ht
  have HW2 := Aside0.mk (HW.out.grown hgr HW.out.size (fun j hj => by cases hj; exact hbb'))
  have HT := Aside0.mk ht
  rw [s0]
  clear ht hgr s0 s1
  go_wp2_with (fail)
  go_loopg [10] (n + 1) (fun kq v wr => ∃ x : Int, v = .int .i64 x ∧ Aside0 (0 ≤ x ∧ x ≤ n ∧ x + kq = n + 1) ∧ Aside0 (Tm wr g b [⟨k, P + R⟩]) ∧ Aside0 (Below w.heap.size w wr))
  case atStart => exact ⟨0, rfl, ⟨by omega⟩, HT, HW2⟩
  case round =>
    clear HT HW2
    obtain ⟨x, rfl, HI, HT, HW2⟩ := hrel
    cases gk with
    | zero => exact absurd HI.out (by omega)
    | succ k1 =>
      obtain ⟨hx0, hxn, hxk⟩ := HI.out
      by_cases hlt : x < (n : Int)
      · obtain ⟨ad, hA, hc⟩ := Kd.at_int HX.out x hx0 hlt
        have hcell := (HW2.out.cell (World.block_lt_of_cell? w _ hc)).trans hc
        have hv : 0 ≤ rd xs x ∧ rd xs x < 4294967296 := by
          have hj : x.toNat < xs.length := by omega
          have e : rd xs x = xs[x.toNat] := by show xs.getD x.toNat 0 = _; simp [hj]
          rw [e]; exact HXS.out _ (List.getElem_mem hj)
        have hltb : decide (x < (n : Int)) = true := decide_eq_true hlt
        clear hc
        subst hA
        obtain ⟨y, hy⟩ : ∃ y, y = rd xs x := ⟨_, rfl⟩
        rw [← hy] at hcell hv
        clear hy
        obtain ⟨hv0, hv1⟩ := hv
        have hs := seen_is (L := [⟨k, P + R⟩]) (k := k) (a := y % 1073741824) (c := R) (tHas_one k _)
        obtain ⟨hs0, hs1⟩ := hs
        have HS := Aside0.mk (seen_any g b [⟨k, P + R⟩] k (y % 1073741824) R wr HT.out hk (by show 1 < maxLen; decide))
        rw [hs0, hs1] at HS
        clear hs0 hs1 hltb
        go_wp2_with (fail)
        refine HS.out.mono ?_
        rintro e w3 ⟨rfl, ht, hgr⟩
        have HW3 := Aside0.mk (HW2.out.grown hgr HW2.out.size (fun j hj => by cases hj; exact hbb'))
        have HT3 := Aside0.mk ht
        clear ht hgr HS
        go_wp2_with (fail)
        go_roundg k1
        case measure => omega
        case rel => exact ⟨x + 1, rfl, ⟨by omega⟩, HT3, HW3⟩
      · have hc : decide (x < (n : Int)) = false := decide_eq_false hlt
        clear HI hx0 hxn hxk hlt
        go_wp2_with (fail)
        refine (next_any g b _ k wr HT.out hk).mono ?_
        rw [tHas_one, tAt_one]
        rintro e w3 ⟨rfl, rfl⟩
        go_wp2_with (fail)
        have s2 : setB [⟨k, P + R⟩] k 7 = true := by simp [setB, tHas, okT]
        have s3 : setL [⟨k, P + R⟩] k 7 = [⟨k, 7⟩] := by unfold setL; rw [if_pos s2]; simp [putL]
        have HS := Aside0.mk (set_any g b _ k 7 w3 HT.out hk (by show 1 < maxLen; decide))
        rw [s2, s3] at HS
        clear s2 s3
        refine HS.out.mono ?_
        rintro e w4 ⟨rfl, ht, hgr⟩
        have HW4 := Aside0.mk (HW2.out.grown hgr HW2.out.size (fun j hj => by cases hj; exact hbb'))
        have HT4 := Aside0.mk ht
        clear ht hgr HS
        go_wp2_with (fail)
        refine (next_any g b _ k w4 HT4.out hk).mono ?_
        rw [tHas_one, tAt_one]
        rintro e w5 ⟨rfl, rfl⟩
        go_wp2_with (fail)
        have HS := Aside0.mk (drop_any g b _ k w5 HT4.out hk)
        rw [tHas_one, show delL [⟨k, 7⟩] k = [] by simp [delL]] at HS
        refine HS.out.mono ?_
        rintro e w6 ⟨rfl, ht, hgr⟩
        have HW6 := Aside0.mk (HW4.out.grown hgr HW4.out.size (fun j hj => by cases hj; exact hbb'))
        have HT6 := Aside0.mk ht
        clear ht hgr HS
        go_wp2_with (fail)
        refine (len_any g b _ w6 HT6.out).mono ?_
        rintro e w7 ⟨rfl, rfl⟩
        go_wp2_with (fail)
        have HS := Aside0.mk (seen_any g b _ k 1 1 w7 HT6.out hk (by decide))
        rw [show seenB [] k 1 1 = true by simp [seenB, tHas, okT]] at HS
        refine HS.out.mono ?_
        rintro e w8 ⟨rfl, ht, hgr⟩
        have HW8 := Aside0.mk (HW6.out.grown hgr HW6.out.size (fun j hj => by cases hj; exact hbb'))
        clear ht hgr HS
        go_wp2_with (fail)
        refine (awake_any w8).mono ?_
        rintro e w9 ⟨rfl, hb⟩
        have HW9 := Aside0.mk (below_then HW8.out HW8.out.size hb)
        clear hb
        go_wp2_with (fail)
        go_ret
        exact ⟨rfl, HW9.out⟩
end Go.Proofs.Ytbocdfpgjkjilaa.T
