/- Any: IndexFunc over intervals. -/
import Derived.Test.YtgipdacenppmdaaGreatDoorIY
set_option linter.unusedVariables false
set_option linter.unusedSimpArgs false
namespace Go.Proofs.YtgipdacenppmdaaGreatDoor.G
open Go.RowKit Go.Shelf Go.Lib Go.Sort Go.Proofs.YtgipdacenppmdaaGreatDoorW.PrintWords Go.Proofs.YtgipdacenppmdaaGreatDoor.P
/-- The closure's contract: for the elements of the list alone. -/
def Tests (lb : Array Value) (l : List S24) (q : S24 → Bool) (w : World) : Prop :=
  ∀ W, Below w.heap.size w W → ∀ x ∈ l, ∀ cs : Array Value, k24.K W x cs.toList → Calls Tryz.prog 51 (#[.agg cs] ++ lb) W fun e w' => e = .returned (.bool (q x)) ∧ Below W.heap.size W w'
set_option maxHeartbeats 8000000 in
set_option maxRecDepth 100000 in
theorem index80 (A : Option Addr) (c : Nat) (l : List S24) (q : S24 → Bool) (p1 p2 : Nat) (w : World) (hC : Kd.C k24 w A l.length l) (hq : Tests #[.pointer (some ⟨p1, 0, none⟩), .pointer (some ⟨p2, 0, none⟩)] l q w) :
    Calls Tryz.prog 80 #[.slice A l.length c, .func (.func 51) #[] #[.pointer (some ⟨p1, 0, none⟩), .pointer (some ⟨p2, 0, none⟩)]] w fun e w' => (∃ i : Int, e = .returned (.int .i64 i) ∧ (decide (i ≥ 0) = l.any q)) ∧ Below w.heap.size w w' := by
  obtain ⟨n, hn⟩ : ∃ n, n = l.length := ⟨_, rfl⟩
  rw [← hn] at hC ⊢
  have HN := Aside0.mk hn
  have hnb : n ≤ 9223372036854775807 := hC.2.1
  have HC := Aside0.mk hC
  have HQ := Aside0.mk hq
  clear hn hC hq
  go_enter Tryz.func80, Tryz.ntmps80
  go_wp2_with (fail)
  go_loopg [8] (n + 1) (fun kq v8 wr => ∃ (j : Nat), v8 = .int .i64 (j : Int) ∧ Aside0 (j ≤ n ∧ j + kq = n + 1) ∧ Aside0 (Below w.heap.size w wr) ∧ Aside0 (l.any q = (l.drop j).any q))
  case atStart => exact ⟨0, rfl, ⟨by omega⟩, ⟨Below.refl _ _⟩, ⟨rfl⟩⟩
  case round =>
    obtain ⟨j, rfl, HJ, HB, HE⟩ := hrel
    obtain ⟨hj0, hjk⟩ := HJ.out
    by_cases hj : j < n
    · cases gk with
      | zero => exact absurd hjk (by omega)
      | succ k1 =>
        have d1 : decide ((j : Int) < (n : Int)) = true := decide_eq_true (by omega)
        have d2 : decide (j < n) = true := decide_eq_true hj
        obtain ⟨ad, A1, c1, A2, c2, A3, c3, A4, c4, A5, c5, hA, f0, f1, f2, f3, f4, f5, f6, g1, r1, g2, r2, g3, r3, g4, r4, g5, r5⟩ := at_T24 (Kd.C_below HC.out HB.out) (j : Int) (by omega) (by omega)
        subst hA
        obtain ⟨x, hx⟩ : ∃ x, x = rd_T24 l (j : Int) := ⟨_, rfl⟩
        rw [← hx] at f0 f1 f2 f3 f4 f5 f6 g1 r1 g2 r2 g3 r3 g4 r4 g5 r5
        rw [Int.toNat_natCast] at f0 f1 f2 f3 f4 f5 f6
        have hjl : j < l.length := by rw [← HN.out]; exact hj
        have hxe : x = l[j] := by rw [hx]; unfold rd_T24; simp [hjl]
        have HCL := Aside0.mk (HQ.out wr HB.out x (by rw [hxe]; exact List.getElem_mem _) #[.string x.f0, .slice A1 x.f1.length c1, .slice A2 x.f2.length c2, .slice A3 x.f3.length c3, .slice A4 x.f4.length c4, .slice A5 x.f5.length c5, .int .i64 x.f6] (k24_mk wr x g1 r1 g2 r2 g3 r3 g4 r4 g5 r5))
        have hstep : (l.drop j).any q = (q x || (l.drop (j + 1)).any q) := by rw [List.drop_eq_getElem_cons hjl, List.any_cons, hxe]
        have HST := Aside0.mk hstep
        obtain ⟨b, hb⟩ : ∃ b, b = q x := ⟨_, rfl⟩
        rw [← hb] at HCL HST
        clear g1 r1 g2 r2 g3 r3 g4 r4 g5 r5 hx hxe hjl hstep hb
        cases b with
        | true =>
          go_wp2_with (fail)
          refine HCL.out.mono ?_
          rintro e w5 ⟨rfl, hb5⟩
          have HB5 := Aside0.mk (below_then HB.out HB.out.size hb5)
          clear hb5
          go_wp2_with (fail)
          go_ret
          refine ⟨⟨(j : Int), rfl, ?_⟩, HB5.out⟩
          rw [HE.out, HST.out]
          simp
        | false =>
          go_wp2_with (fail)
          refine HCL.out.mono ?_
          rintro e w5 ⟨rfl, hb5⟩
          have HB5 := Aside0.mk (below_then HB.out HB.out.size hb5)
          clear hb5
          go_wp2_with (fail)
          go_roundg k1
          case measure => omega
          case rel => exact ⟨j + 1, by first | rfl | (simp; done) | (simp; unfold wrap64; omega), ⟨by omega⟩, HB5, ⟨by rw [HE.out, HST.out, Bool.false_or]⟩⟩
    · have d1 : decide ((j : Int) < (n : Int)) = false := decide_eq_false (by omega)
      have d2 : decide (j < n) = false := decide_eq_false hj
      go_wp2_with (fail)
      go_ret
      refine ⟨⟨-1, rfl, ?_⟩, HB.out⟩
      rw [HE.out, List.drop_of_length_le (by rw [← HN.out]; omega)]
      rfl
theorem contains50 (A : Option Addr) (c : Nat) (l : List S24) (q : S24 → Bool) (p1 p2 : Nat) (w : World) (hC : Kd.C k24 w A l.length l) (hq : Tests #[.pointer (some ⟨p1, 0, none⟩), .pointer (some ⟨p2, 0, none⟩)] l q w) :
    Calls Tryz.prog 50 #[.slice A l.length c, .func (.func 51) #[] #[.pointer (some ⟨p1, 0, none⟩), .pointer (some ⟨p2, 0, none⟩)]] w fun e w' => e = .returned (.bool (l.any q)) ∧ Below w.heap.size w w' := by
  have HI := Aside0.mk (index80 A c l q p1 p2 w hC hq)
  obtain ⟨n, hn⟩ : ∃ n, n = l.length := ⟨_, rfl⟩
  rw [← hn] at HI ⊢
  clear hn hC hq
  go_enter Tryz.func50, Tryz.ntmps50
  go_wp2_with (fail)
  refine HI.out.mono ?_
  rintro e w1 ⟨⟨i, rfl, hi⟩, hb⟩
  have HB := Aside0.mk hb
  have HX := Aside0.mk hi
  clear hb hi
  go_wp2_with (fail)
  go_ret
  refine ⟨?_, HB.out⟩
  rw [← HX.out]
  first | rfl | simp
end Go.Proofs.YtgipdacenppmdaaGreatDoor.G
