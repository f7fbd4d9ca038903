/- Same. -/
import Derived.Test.YtgipdacenppmdaaGreatDoorIX
set_option linter.unusedVariables false
set_option linter.unusedSimpArgs false
namespace Go.Proofs.YtgipdacenppmdaaGreatDoor.G
open Go.RowKit Go.Shelf Go.Lib Go.Sort Go.Proofs.YtgipdacenppmdaaGreatDoorW.PrintWords Go.Proofs.YtgipdacenppmdaaGreatDoor.P
def eqL : List S55 → List S55 → Bool
 | [], [] => true
 | x :: t, y :: u => ((x.f0 == y.f0) && (x.f1 == y.f1)) && eqL t u
 | _, _ => false
theorem range_l0 (l m : List S55) (hlm : l.length = m.length) (hb : l.length ≤ 1000000) : ∀ (d i k : Nat), i + d = l.length → d < k → api_Range.l0 k l m (l.length : Int) (i : Int) = some (eqL (l.drop i) (m.drop i))
 | 0, i, k + 1, h, hk => by
  unfold api_Range.l0
  rw [if_neg (by omega), List.drop_of_length_le (by omega), List.drop_of_length_le (by omega)]
  rfl
 | d + 1, i, k + 1, h, hk => by
  have hi : i < l.length := by omega
  have hj : i < m.length := by omega
  unfold api_Range.l0
  rw [if_pos (by omega), if_pos (by omega), if_pos (by omega), if_pos (by omega), List.drop_eq_getElem_cons hi, List.drop_eq_getElem_cons hj]
  have e1 : rd_T55 l (i : Int) = l[i] := by unfold rd_T55; simp [hi]
  have e2 : rd_T55 m (i : Int) = m[i] := by unfold rd_T55; simp [hj]
  rw [e1, e2, eqL]
  have hw : wrap64 ((i : Int) + 1) = ((i + 1 : Nat) : Int) := by unfold wrap64; omega
  rw [hw, range_l0 l m hlm hb d (i + 1) k (by omega) (by omega)]
  cases l[i].f0 == m[i].f0 <;> cases l[i].f1 == m[i].f1 <;> simp
theorem eqL_len : ∀ (l m : List S55), ¬ l.length = m.length → eqL l m = false
 | [], [], h => absurd rfl h
 | [], _ :: _, _ => rfl
 | _ :: _, [], _ => rfl
 | x :: t, y :: u, h => by rw [eqL, eqL_len t u (fun e => h (by simp [e])), Bool.and_false]
theorem range_f (l m : List S55) (hb : l.length ≤ 1000000) : api_Range.f (l.length + 2) l m = some (eqL l m) := by
 unfold api_Range.f
 by_cases h : l.length = m.length
 ·rw [if_pos (by omega)]
  have := range_l0 l m h hb l.length 0 (l.length + 2) (by omega) (by omega)
  simpa using this
 ·rw [if_neg (by omega), eqL_len l m h]
def sel5 {α : Type} (a b c d e : α) : Nat → α
 | 0 => a | 1 => b | 2 => c | 3 => d | _ => e
def sameT (a0_0 a1_0 : ByteArray) (a0_6 a1_6 : Int) : Bool := (a0_0.toList == a1_0.toList) && (a0_6 == a1_6)
def ISame.f (a0_0 : ByteArray) (l0_1 : List (S55)) (l0_2 : List (S55)) (l0_3 : List (S55)) (l0_4 : List (S55)) (l0_5 : List (S55)) (a0_6 : Int) (a1_0 : ByteArray) (l1_1 : List (S55)) (l1_2 : List (S55)) (l1_3 : List (S55)) (l1_4 : List (S55)) (l1_5 : List (S55)) (a1_6 : Int) : Option (Bool) :=
 if l0_1.length ≤ 1000000 ∧ l0_2.length ≤ 1000000 ∧ l0_3.length ≤ 1000000 ∧ l0_4.length ≤ 1000000 ∧ l0_5.length ≤ 1000000 then
  some ((eqL l0_1 l1_1 && (eqL l0_2 l1_2 && (eqL l0_3 l1_3 && (eqL l0_4 l1_4 && eqL l0_5 l1_5)))) && sameT a0_0 a1_0 a0_6 a1_6)
 else none
set_option maxHeartbeats 8000000 in
set_option maxRecDepth 100000 in
theorem ISame.calls (a0_0 : ByteArray) (A0_1 : Option Addr) (c0_1 : Nat) (l0_1 : List (S55)) (A0_2 : Option Addr) (c0_2 : Nat) (l0_2 : List (S55)) (A0_3 : Option Addr) (c0_3 : Nat) (l0_3 : List (S55)) (A0_4 : Option Addr) (c0_4 : Nat) (l0_4 : List (S55)) (A0_5 : Option Addr) (c0_5 : Nat) (l0_5 : List (S55)) (a0_6 : Int) (a1_0 : ByteArray) (A1_1 : Option Addr) (c1_1 : Nat) (l1_1 : List (S55)) (A1_2 : Option Addr) (c1_2 : Nat) (l1_2 : List (S55)) (A1_3 : Option Addr) (c1_3 : Nat) (l1_3 : List (S55)) (A1_4 : Option Addr) (c1_4 : Nat) (l1_4 : List (S55)) (A1_5 : Option Addr) (c1_5 : Nat) (l1_5 : List (S55)) (a1_6 : Int) (r : Bool) (w : World) (hr0_1 : Kd.C k55 w A0_1 l0_1.length l0_1) (hc0_1 : l0_1.length ≤ c0_1) (hr0_2 : Kd.C k55 w A0_2 l0_2.length l0_2) (hc0_2 : l0_2.length ≤ c0_2) (hr0_3 : Kd.C k55 w A0_3 l0_3.length l0_3) (hc0_3 : l0_3.length ≤ c0_3) (hr0_4 : Kd.C k55 w A0_4 l0_4.length l0_4) (hc0_4 : l0_4.length ≤ c0_4) (hr0_5 : Kd.C k55 w A0_5 l0_5.length l0_5) (hc0_5 : l0_5.length ≤ c0_5) (hr1_1 : Kd.C k55 w A1_1 l1_1.length l1_1) (hc1_1 : l1_1.length ≤ c1_1) (hr1_2 : Kd.C k55 w A1_2 l1_2.length l1_2) (hc1_2 : l1_2.length ≤ c1_2) (hr1_3 : Kd.C k55 w A1_3 l1_3.length l1_3) (hc1_3 : l1_3.length ≤ c1_3) (hr1_4 : Kd.C k55 w A1_4 l1_4.length l1_4) (hc1_4 : l1_4.length ≤ c1_4) (hr1_5 : Kd.C k55 w A1_5 l1_5.length l1_5) (hc1_5 : l1_5.length ≤ c1_5) (h : ISame.f a0_0 l0_1 l0_2 l0_3 l0_4 l0_5 a0_6 a1_0 l1_1 l1_2 l1_3 l1_4 l1_5 a1_6 = some r) :
  Calls Tryz.prog 21 #[.agg #[.string a0_0, .slice A0_1 l0_1.length c0_1, .slice A0_2 l0_2.length c0_2, .slice A0_3 l0_3.length c0_3, .slice A0_4 l0_4.length c0_4, .slice A0_5 l0_5.length c0_5, .int .i64 a0_6], .agg #[.string a1_0, .slice A1_1 l1_1.length c1_1, .slice A1_2 l1_2.length c1_2, .slice A1_3 l1_3.length c1_3, .slice A1_4 l1_4.length c1_4, .slice A1_5 l1_5.length c1_5, .int .i64 a1_6]] w fun e w' => e = .returned (.bool r) ∧ Below w.heap.size w w' := by
 unfold ISame.f at h
 by_cases hl : l0_1.length ≤ 1000000 ∧ l0_2.length ≤ 1000000 ∧ l0_3.length ≤ 1000000 ∧ l0_4.length ≤ 1000000 ∧ l0_5.length ≤ 1000000
 case neg => rw [if_neg hl] at h; cases h
 rw [if_pos hl] at h
 have HR := Aside0.mk (Option.some.inj h)
 have HL := Aside0.mk hl
 have HEQ0 := Aside0.mk (show ∀ k, k < 5 → ∀ W, Below w.heap.size w W → Calls Tryz.prog 49 #[.slice ((sel5 A0_1 A0_2 A0_3 A0_4 A0_5) k) ((sel5 l0_1 l0_2 l0_3 l0_4 l0_5) k).length ((sel5 c0_1 c0_2 c0_3 c0_4 c0_5) k), .slice ((sel5 A1_1 A1_2 A1_3 A1_4 A1_5) k) ((sel5 l1_1 l1_2 l1_3 l1_4 l1_5) k).length ((sel5 c1_1 c1_2 c1_3 c1_4 c1_5) k)] W fun e w' => e = .returned (.bool (eqL ((sel5 l0_1 l0_2 l0_3 l0_4 l0_5) k) ((sel5 l1_1 l1_2 l1_3 l1_4 l1_5) k))) ∧ Below W.heap.size W w' from fun k hk W hW => by
  have hk' : k = 0 ∨ k = 1 ∨ k = 2 ∨ k = 3 ∨ k = 4 := by omega
  obtain ⟨g1, g2, g3, g4, g5⟩ := hl
  rcases hk' with rfl | rfl | rfl | rfl | rfl
  ·exact (api_Range.calls _ A0_1 c0_1 l0_1 A1_1 c1_1 l1_1 _ W (Kd.C_below hr0_1 hW) hc0_1 (Kd.C_below hr1_1 hW) hc1_1 (range_f l0_1 l1_1 g1)).mono (by rintro e w' ⟨rfl, hd⟩; exact ⟨rfl, hd.below⟩)
  ·exact (api_Range.calls _ A0_2 c0_2 l0_2 A1_2 c1_2 l1_2 _ W (Kd.C_below hr0_2 hW) hc0_2 (Kd.C_below hr1_2 hW) hc1_2 (range_f l0_2 l1_2 g2)).mono (by rintro e w' ⟨rfl, hd⟩; exact ⟨rfl, hd.below⟩)
  ·exact (api_Range.calls _ A0_3 c0_3 l0_3 A1_3 c1_3 l1_3 _ W (Kd.C_below hr0_3 hW) hc0_3 (Kd.C_below hr1_3 hW) hc1_3 (range_f l0_3 l1_3 g3)).mono (by rintro e w' ⟨rfl, hd⟩; exact ⟨rfl, hd.below⟩)
  ·exact (api_Range.calls _ A0_4 c0_4 l0_4 A1_4 c1_4 l1_4 _ W (Kd.C_below hr0_4 hW) hc0_4 (Kd.C_below hr1_4 hW) hc1_4 (range_f l0_4 l1_4 g4)).mono (by rintro e w' ⟨rfl, hd⟩; exact ⟨rfl, hd.below⟩)
  ·exact (api_Range.calls _ A0_5 c0_5 l0_5 A1_5 c1_5 l1_5 _ W (Kd.C_below hr0_5 hW) hc0_5 (Kd.C_below hr1_5 hW) hc1_5 (range_f l0_5 l1_5 g5)).mono (by rintro e w' ⟨rfl, hd⟩; exact ⟨rfl, hd.below⟩))
 have HVA0 := Aside0.mk (show ∀ k, k < 5 → (#[.string a0_0, .slice A0_1 l0_1.length c0_1, .slice A0_2 l0_2.length c0_2, .slice A0_3 l0_3.length c0_3, .slice A0_4 l0_4.length c0_4, .slice A0_5 l0_5.length c0_5, .int .i64 a0_6] : Array Value)[k + 1]? = some (.slice ((sel5 A0_1 A0_2 A0_3 A0_4 A0_5) k) ((sel5 l0_1 l0_2 l0_3 l0_4 l0_5) k).length ((sel5 c0_1 c0_2 c0_3 c0_4 c0_5) k)) from fun k hk => by
  have hk' : k = 0 ∨ k = 1 ∨ k = 2 ∨ k = 3 ∨ k = 4 := by omega
  rcases hk' with rfl | rfl | rfl | rfl | rfl <;> rfl)
 have HVB0 := Aside0.mk (show ∀ k, k < 5 → (#[.string a1_0, .slice A1_1 l1_1.length c1_1, .slice A1_2 l1_2.length c1_2, .slice A1_3 l1_3.length c1_3, .slice A1_4 l1_4.length c1_4, .slice A1_5 l1_5.length c1_5, .int .i64 a1_6] : Array Value)[k + 1]? = some (.slice ((sel5 A1_1 A1_2 A1_3 A1_4 A1_5) k) ((sel5 l1_1 l1_2 l1_3 l1_4 l1_5) k).length ((sel5 c1_1 c1_2 c1_3 c1_4 c1_5) k)) from fun k hk => by
  have hk' : k = 0 ∨ k = 1 ∨ k = 2 ∨ k = 3 ∨ k = 4 := by omega
  rcases hk' with rfl | rfl | rfl | rfl | rfl <;> rfl)
 have HRK := Aside0.mk (show (∀ k, k < 5 → eqL ((sel5 l0_1 l0_2 l0_3 l0_4 l0_5) k) ((sel5 l1_1 l1_2 l1_3 l1_4 l1_5) k) = true) → r = sameT a0_0 a1_0 a0_6 a1_6 from fun hk => by
  rw [← HR.out]
  have h0 := hk 0 (by omega); have h1 := hk 1 (by omega); have h2 := hk 2 (by omega); have h3 := hk 3 (by omega); have h4 := hk 4 (by omega)
  simp only [sel5] at h0 h1 h2 h3 h4
  rw [h0, h1, h2, h3, h4]; simp)
 have HRF := Aside0.mk (show ∀ k, k < 5 → eqL ((sel5 l0_1 l0_2 l0_3 l0_4 l0_5) k) ((sel5 l1_1 l1_2 l1_3 l1_4 l1_5) k) = false → r = false from fun k hk hf => by
  rw [← HR.out]
  have hk' : k = 0 ∨ k = 1 ∨ k = 2 ∨ k = 3 ∨ k = 4 := by omega
  rcases hk' with rfl | rfl | rfl | rfl | rfl <;> (simp only [sel5] at hf; rw [hf]; simp))
 obtain ⟨SA, hSA⟩ : ∃ f, f = (sel5 A0_1 A0_2 A0_3 A0_4 A0_5) := ⟨_, rfl⟩
 obtain ⟨SL, hSL⟩ : ∃ f, f = (sel5 l0_1 l0_2 l0_3 l0_4 l0_5) := ⟨_, rfl⟩
 obtain ⟨SC, hSC⟩ : ∃ f, f = (sel5 c0_1 c0_2 c0_3 c0_4 c0_5) := ⟨_, rfl⟩
 obtain ⟨TA, hTA⟩ : ∃ f, f = (sel5 A1_1 A1_2 A1_3 A1_4 A1_5) := ⟨_, rfl⟩
 obtain ⟨TL, hTL⟩ : ∃ f, f = (sel5 l1_1 l1_2 l1_3 l1_4 l1_5) := ⟨_, rfl⟩
 obtain ⟨TC, hTC⟩ : ∃ f, f = (sel5 c1_1 c1_2 c1_3 c1_4 c1_5) := ⟨_, rfl⟩
 rw [← hSA, ← hSL, ← hSC, ← hTA, ← hTL, ← hTC] at HEQ0
 rw [← hSA, ← hSL, ← hSC] at HVA0
 rw [← hTA, ← hTL, ← hTC] at HVB0
 rw [← hSL, ← hTL] at HRK HRF
 clear hSA hSL hSC hTA hTL hTC hl h HR HL
 clear hr0_1 hc0_1 hr0_2 hc0_2 hr0_3 hc0_3 hr0_4 hc0_4 hr0_5 hc0_5 hr1_1 hc1_1 hr1_2 hc1_2 hr1_3 hc1_3 hr1_4 hc1_4 hr1_5 hc1_5
 obtain ⟨n0_1, hn0_1⟩ : ∃ n, n = l0_1.length := ⟨_, rfl⟩
 obtain ⟨n0_2, hn0_2⟩ : ∃ n, n = l0_2.length := ⟨_, rfl⟩
 obtain ⟨n0_3, hn0_3⟩ : ∃ n, n = l0_3.length := ⟨_, rfl⟩
 obtain ⟨n0_4, hn0_4⟩ : ∃ n, n = l0_4.length := ⟨_, rfl⟩
 obtain ⟨n0_5, hn0_5⟩ : ∃ n, n = l0_5.length := ⟨_, rfl⟩
 obtain ⟨n1_1, hn1_1⟩ : ∃ n, n = l1_1.length := ⟨_, rfl⟩
 obtain ⟨n1_2, hn1_2⟩ : ∃ n, n = l1_2.length := ⟨_, rfl⟩
 obtain ⟨n1_3, hn1_3⟩ : ∃ n, n = l1_3.length := ⟨_, rfl⟩
 obtain ⟨n1_4, hn1_4⟩ : ∃ n, n = l1_4.length := ⟨_, rfl⟩
 obtain ⟨n1_5, hn1_5⟩ : ∃ n, n = l1_5.length := ⟨_, rfl⟩
 rw [← hn0_1, ← hn0_2, ← hn0_3, ← hn0_4, ← hn0_5] at HVA0
 rw [← hn1_1, ← hn1_2, ← hn1_3, ← hn1_4, ← hn1_5] at HVB0
 rw [← hn0_1, ← hn0_2, ← hn0_3, ← hn0_4, ← hn0_5, ← hn1_1, ← hn1_2, ← hn1_3, ← hn1_4, ← hn1_5]
 clear hn0_1 hn0_2 hn0_3 hn0_4 hn0_5 hn1_1 hn1_2 hn1_3 hn1_4 hn1_5
 go_enter Tryz.func21, Tryz.ntmps21
 go_wp2_with (fail)
 obtain ⟨b2, hb2⟩ : ∃ x, x = w.heap.size := ⟨_, rfl⟩
 obtain ⟨b3, hb3⟩ : ∃ x, x = w.heap.size + 1 := ⟨_, rfl⟩
 obtain ⟨w2, hw2⟩ : ∃ x, x = (w.alloc (.cells #[.string a0_0, .slice A0_1 n0_1 c0_1, .slice A0_2 n0_2 c0_2, .slice A0_3 n0_3 c0_3, .slice A0_4 n0_4 c0_4, .slice A0_5 n0_5 c0_5, .int .i64 a0_6] 24)).alloc (.cells #[.string a1_0, .slice A1_1 n1_1 c1_1, .slice A1_2 n1_2 c1_2, .slice A1_3 n1_3 c1_3, .slice A1_4 n1_4 c1_4, .slice A1_5 n1_5 c1_5, .int .i64 a1_6] 24) := ⟨_, rfl⟩
 have HB2 := Aside0.mk (show Below w.heap.size w w2 by rw [hw2]; exact below_alloc (below_alloc (Below.refl _ _) _) _)
 have HBA := Aside0.mk (show w2.heap[b2]? = some (.cells #[.string a0_0, .slice A0_1 n0_1 c0_1, .slice A0_2 n0_2 c0_2, .slice A0_3 n0_3 c0_3, .slice A0_4 n0_4 c0_4, .slice A0_5 n0_5 c0_5, .int .i64 a0_6] 24 (0, 0)) by
  rw [hw2, hb2]
  exact ((below_alloc (Below.refl (w.alloc (.cells #[.string a0_0, .slice A0_1 n0_1 c0_1, .slice A0_2 n0_2 c0_2, .slice A0_3 n0_3 c0_3, .slice A0_4 n0_4 c0_4, .slice A0_5 n0_5 c0_5, .int .i64 a0_6] 24)).heap.size _) _).block _ (by simp)).trans (heap_alloc_new w _))
 have HBB := Aside0.mk (show w2.heap[b3]? = some (.cells #[.string a1_0, .slice A1_1 n1_1 c1_1, .slice A1_2 n1_2 c1_2, .slice A1_3 n1_3 c1_3, .slice A1_4 n1_4 c1_4, .slice A1_5 n1_5 c1_5, .int .i64 a1_6] 24 (0, 0)) by
  rw [hw2, hb3]
  have := heap_alloc_new (w.alloc (.cells #[.string a0_0, .slice A0_1 n0_1 c0_1, .slice A0_2 n0_2 c0_2, .slice A0_3 n0_3 c0_3, .slice A0_4 n0_4 c0_4, .slice A0_5 n0_5 c0_5, .int .i64 a0_6] 24)) (.cells #[.string a1_0, .slice A1_1 n1_1 c1_1, .slice A1_2 n1_2 c1_2, .slice A1_3 n1_3 c1_3, .slice A1_4 n1_4 c1_4, .slice A1_5 n1_5 c1_5, .int .i64 a1_6] 24)
  rw [size_alloc2] at this
  exact this)
 rw [← hw2, ← hb3, ← hb2]
 clear hw2 hb2 hb3
 refine (of_any b2 w2).mono ?_
 rintro e w3 ⟨rfl, hb⟩
 have HB3 := Aside0.mk hb
 clear hb
 go_wp2_with (fail)
 refine (of_any b3 w3).mono ?_
 rintro e w4 ⟨rfl, hb⟩
 have HB4 := Aside0.mk (below_then HB3.out HB3.out.size hb)
 clear hb
 unfold parts
 go_wp2_with (fail)
 obtain ⟨p5, hp5⟩ : ∃ x, x = w4.heap.size := ⟨_, rfl⟩
 obtain ⟨p6, hp6⟩ : ∃ x, x = w4.heap.size + 1 := ⟨_, rfl⟩
 obtain ⟨wz, hwz⟩ : ∃ x, x = (w4.alloc (.cells #[.pointer (some ⟨b2, 1, none⟩), .pointer (some ⟨b2, 2, none⟩), .pointer (some ⟨b2, 3, none⟩), .pointer (some ⟨b2, 4, none⟩), .pointer (some ⟨b2, 5, none⟩)] 50)).alloc (.cells #[.pointer (some ⟨b3, 1, none⟩), .pointer (some ⟨b3, 2, none⟩), .pointer (some ⟨b3, 3, none⟩), .pointer (some ⟨b3, 4, none⟩), .pointer (some ⟨b3, 5, none⟩)] 50) := ⟨_, rfl⟩
 have HBZ := Aside0.mk (show Below w2.heap.size w2 wz by rw [hwz]; exact below_alloc (below_alloc HB4.out _) _)
 have HP5 := Aside0.mk (show wz.heap[p5]? = some (.cells (ptrs b2) 50 (0, 0)) by
  rw [hwz, hp5]
  exact ((below_alloc (Below.refl (w4.alloc (.cells #[.pointer (some ⟨b2, 1, none⟩), .pointer (some ⟨b2, 2, none⟩), .pointer (some ⟨b2, 3, none⟩), .pointer (some ⟨b2, 4, none⟩), .pointer (some ⟨b2, 5, none⟩)] 50)).heap.size _) _).block _ (by simp)).trans (heap_alloc_new w4 _))
 have HP6 := Aside0.mk (show wz.heap[p6]? = some (.cells (ptrs b3) 50 (0, 0)) by
  rw [hwz, hp6]
  have := heap_alloc_new (w4.alloc (.cells #[.pointer (some ⟨b2, 1, none⟩), .pointer (some ⟨b2, 2, none⟩), .pointer (some ⟨b2, 3, none⟩), .pointer (some ⟨b2, 4, none⟩), .pointer (some ⟨b2, 5, none⟩)] 50)) (.cells #[.pointer (some ⟨b3, 1, none⟩), .pointer (some ⟨b3, 2, none⟩), .pointer (some ⟨b3, 3, none⟩), .pointer (some ⟨b3, 4, none⟩), .pointer (some ⟨b3, 5, none⟩)] 50)
  rw [size_alloc2] at this
  exact this)
 rw [← hwz, ← hp6, ← hp5]
 clear hwz hp5 hp6
 have HBZA := Aside0.mk ((HBZ.out.block _ (blk_lt HBA.out)).trans HBA.out)
 have HBZB := Aside0.mk ((HBZ.out.block _ (blk_lt HBB.out)).trans HBB.out)
 have HBW := Aside0.mk (below_then HB2.out HB2.out.size HBZ.out)
 clear HB3 HB4
 go_loopg [10] 6 (fun kq v10 wr => ∃ (j : Nat), v10 = .int .i64 (j : Int) ∧ Aside0 (j ≤ 5 ∧ j + kq = 6) ∧ Aside0 (Below wz.heap.size wz wr) ∧ Aside0 (∀ i, i < j → eqL (SL i) (TL i) = true))
 case atStart => exact ⟨0, rfl, ⟨by omega⟩, ⟨Below.refl _ _⟩, ⟨fun i hi => absurd hi (by omega)⟩⟩
 case round =>
  obtain ⟨k, rfl, HJ, HB, HE⟩ := hrel
  obtain ⟨hk0, hkk⟩ := HJ.out
  by_cases hk5 : k < 5
  ·cases gk with
   | zero => exact absurd hkk (by omega)
   | succ k1 =>
    have d1 : decide ((k : Int) < 5) = true := decide_eq_true (by omega)
    have d2 : decide (k < 5) = true := decide_eq_true hk5
    rename World => wd
    have hz := HB.out
    have HPA := Aside0.mk (show ∀ W, Below wd.heap.size wd W → W.cell? ⟨p5, k, none⟩ = some (.pointer (some ⟨b2, k + 1, none⟩)) from fun W hW => (blk_cell ((hW.block _ (Nat.lt_of_lt_of_le (blk_lt HP5.out) hz.size)).trans ((hz.block _ (blk_lt HP5.out)).trans HP5.out)) k).trans (ptrs_get b2 k hk5))
    have HPB := Aside0.mk (show ∀ W, Below wd.heap.size wd W → W.cell? ⟨p6, k, none⟩ = some (.pointer (some ⟨b3, k + 1, none⟩)) from fun W hW => (blk_cell ((hW.block _ (Nat.lt_of_lt_of_le (blk_lt HP6.out) hz.size)).trans ((hz.block _ (blk_lt HP6.out)).trans HP6.out)) k).trans (ptrs_get b3 k hk5))
    have HVA := Aside0.mk (show ∀ W, Below wd.heap.size wd W → W.cell? ⟨b2, k + 1, none⟩ = some (.slice (SA k) (SL k).length (SC k)) from fun W hW => (blk_cell ((hW.block _ (Nat.lt_of_lt_of_le (blk_lt HBZA.out) hz.size)).trans ((hz.block _ (blk_lt HBZA.out)).trans HBZA.out)) (k + 1)).trans (HVA0.out k hk5))
    have HVB := Aside0.mk (show ∀ W, Below wd.heap.size wd W → W.cell? ⟨b3, k + 1, none⟩ = some (.slice (TA k) (TL k).length (TC k)) from fun W hW => (blk_cell ((hW.block _ (Nat.lt_of_lt_of_le (blk_lt HBZB.out) hz.size)).trans ((hz.block _ (blk_lt HBZB.out)).trans HBZB.out)) (k + 1)).trans (HVB0.out k hk5))
    have HEQ := Aside0.mk (fun W (hW : Below wd.heap.size wd W) => HEQ0.out k hk5 W (below_then HBW.out HBW.out.size (below_then hz hz.size hW)))
    obtain ⟨eb, heb⟩ : ∃ x, x = eqL (SL k) (TL k) := ⟨_, rfl⟩
    rw [← heb] at HEQ
    obtain ⟨AK, hAK⟩ : ∃ x, x = SA k := ⟨_, rfl⟩
    obtain ⟨nK, hnK⟩ : ∃ x, x = (SL k).length := ⟨_, rfl⟩
    obtain ⟨cK, hcK⟩ : ∃ x, x = SC k := ⟨_, rfl⟩
    obtain ⟨BK, hBK⟩ : ∃ x, x = TA k := ⟨_, rfl⟩
    obtain ⟨mK, hmK⟩ : ∃ x, x = (TL k).length := ⟨_, rfl⟩
    obtain ⟨dK, hdK⟩ : ∃ x, x = TC k := ⟨_, rfl⟩
    rw [← hAK, ← hnK, ← hcK] at HVA HEQ
    rw [← hBK, ← hmK, ← hdK] at HVB HEQ
    have HEB := Aside0.mk heb
    clear hz heb hAK hnK hcK hBK hmK hdK
    go_wp2_with (fail)
    refine Reg.region_list hmix [some 13, some 14, some 15, some 16, some 17, some 18, some 19, some 20, some 21, some 22, some 23, some 24] [[], [0], [1], [2], [3], [], [5], [6], [7], [8], [4, 9], [10]] (fun w => Below wd.heap.size wd w) (fun w w' => True) [(fun v w => v = (.int .i64 (k : Int) : Value)), (fun v w => v = (.pointer (some ⟨p5, k, none⟩) : Value)), (fun v w => v = (.pointer (some ⟨b2, k + 1, none⟩) : Value)), (fun v w => v = (.pointer (some ⟨b2, k + 1, none⟩) : Value)), (fun v w => v = (.slice AK nK cK : Value)), (fun v w => v = (.int .i64 (k : Int) : Value)), (fun v w => v = (.pointer (some ⟨p6, k, none⟩) : Value)), (fun v w => v = (.pointer (some ⟨b3, k + 1, none⟩) : Value)), (fun v w => v = (.pointer (some ⟨b3, k + 1, none⟩) : Value)), (fun v w => v = (.slice BK mK dK : Value)), (fun v w => v = (.bool eb : Value)), (fun v w => v = (.bool (!eb) : Value))] rfl (by kernel_rfl) (by kernel_rfl) (fun _ => trivial) (fun _ _ hr => Reg.mono_cons (fun _ h => h) (Reg.mono_cons (fun _ h => h) (Reg.mono_cons (fun _ h => h) (Reg.mono_cons (fun _ h => h) (Reg.mono_cons (fun _ h => h) (Reg.mono_cons (fun _ h => h) (Reg.mono_cons (fun _ h => h) (Reg.mono_cons (fun _ h => h) (Reg.mono_cons (fun _ h => h) (Reg.mono_cons (fun _ h => h) (Reg.mono_cons (fun _ h => h) (Reg.mono_cons (fun _ h => h) (Reg.mono_nil))))))))))))) (below_drew (Below.refl _ _)) ?hs ?he
    case hs =>
     intro xs0 xs hx0 hl0_ wr hG
     clear hx0
     obtain ⟨x0, xs1, rfl, hl1⟩ := Reg.len_succ hl0_
     obtain ⟨x1, xs2, rfl, hl2⟩ := Reg.len_succ hl1
     obtain ⟨x2, xs3, rfl, hl3⟩ := Reg.len_succ hl2
     obtain ⟨x3, xs4, rfl, hl4⟩ := Reg.len_succ hl3
     obtain ⟨x4, xs5, rfl, hl5⟩ := Reg.len_succ hl4
     obtain ⟨x5, xs6, rfl, hl6⟩ := Reg.len_succ hl5
     obtain ⟨x6, xs7, rfl, hl7⟩ := Reg.len_succ hl6
     obtain ⟨x7, xs8, rfl, hl8⟩ := Reg.len_succ hl7
     obtain ⟨x8, xs9, rfl, hl9⟩ := Reg.len_succ hl8
     obtain ⟨x9, xs10, rfl, hl10⟩ := Reg.len_succ hl9
     obtain ⟨x10, xs11, rfl, hl11⟩ := Reg.len_succ hl10
     obtain ⟨x11, xs12, rfl, hl12⟩ := Reg.len_succ hl11
     obtain rfl := List.eq_nil_of_length_eq_zero hl12
     clear hl0_ hl1 hl2 hl3 hl4 hl5 hl6 hl7 hl8 hl9 hl10 hl11 hl12
     simp only [Reg.putL, Act.put, List.setIfInBounds_toArray, List.set_cons_succ, List.set_cons_zero]
     refine ⟨fun hf _ => ?_, ?_⟩
     ·clear hf
      refine .inl ⟨by rfl, ?_⟩
      simp only [Reg.ung]
      go_wp2
      exact ⟨_, rfl, hG, trivial, rfl⟩
     refine ⟨fun hf _ => ?_, ?_⟩
     ·obtain ⟨hq0, -⟩ := hf
      obtain rfl : x0 = _ := hq0
      refine .inl ⟨by rfl, ?_⟩
      simp only [Reg.ung]
      go_wp2
      exact ⟨_, rfl, hG, trivial, rfl⟩
     refine ⟨fun hf _ => ?_, ?_⟩
     ·obtain ⟨hq0, -⟩ := hf
      obtain rfl : x1 = _ := hq0
      refine .inl ⟨by rfl, ?_⟩
      simp only [Reg.ung]
      have cp := HPA.out wr hG; go_wp2; exact ⟨_, rfl, hG, trivial, rfl⟩
     refine ⟨fun hf _ => ?_, ?_⟩
     ·obtain ⟨hq0, -⟩ := hf
      obtain rfl : x2 = _ := hq0
      refine .inl ⟨by rfl, ?_⟩
      simp only [Reg.ung]
      go_wp2
      exact ⟨_, rfl, hG, trivial, rfl⟩
     refine ⟨fun hf _ => ?_, ?_⟩
     ·obtain ⟨hq0, -⟩ := hf
      obtain rfl : x3 = _ := hq0
      refine .inl ⟨by rfl, ?_⟩
      simp only [Reg.ung]
      have cp := HVA.out wr hG; go_wp2; exact ⟨_, rfl, hG, trivial, rfl⟩
     refine ⟨fun hf _ => ?_, ?_⟩
     ·clear hf
      refine .inl ⟨by rfl, ?_⟩
      simp only [Reg.ung]
      go_wp2
      exact ⟨_, rfl, hG, trivial, rfl⟩
     refine ⟨fun hf _ => ?_, ?_⟩
     ·obtain ⟨hq0, -⟩ := hf
      obtain rfl : x5 = _ := hq0
      refine .inl ⟨by rfl, ?_⟩
      simp only [Reg.ung]
      go_wp2
      exact ⟨_, rfl, hG, trivial, rfl⟩
     refine ⟨fun hf _ => ?_, ?_⟩
     ·obtain ⟨hq0, -⟩ := hf
      obtain rfl : x6 = _ := hq0
      refine .inl ⟨by rfl, ?_⟩
      simp only [Reg.ung]
      have cp := HPB.out wr hG; go_wp2; exact ⟨_, rfl, hG, trivial, rfl⟩
     refine ⟨fun hf _ => ?_, ?_⟩
     ·obtain ⟨hq0, -⟩ := hf
      obtain rfl : x7 = _ := hq0
      refine .inl ⟨by rfl, ?_⟩
      simp only [Reg.ung]
      go_wp2
      exact ⟨_, rfl, hG, trivial, rfl⟩
     refine ⟨fun hf _ => ?_, ?_⟩
     ·obtain ⟨hq0, -⟩ := hf
      obtain rfl : x8 = _ := hq0
      refine .inl ⟨by rfl, ?_⟩
      simp only [Reg.ung]
      have cp := HVB.out wr hG; go_wp2; exact ⟨_, rfl, hG, trivial, rfl⟩
     refine ⟨fun hf _ => ?_, ?_⟩
     ·obtain ⟨hq0, hq1, -⟩ := hf
      obtain rfl : x4 = _ := hq0
      obtain rfl : x9 = _ := hq1
      refine .inl ⟨by rfl, ?_⟩
      simp only [Reg.ung]
      go_wp2_with ((go_at_call 49; refine (HEQ.out wr hG).mono ?_; rintro e w5 ⟨rfl, hb5⟩)); exact ⟨_, rfl, below_then hG hG.size hb5, trivial, rfl⟩
     refine ⟨fun hf _ => ?_, ?_⟩
     ·obtain ⟨hq0, -⟩ := hf
      obtain rfl : x10 = _ := hq0
      refine .inl ⟨by rfl, ?_⟩
      simp only [Reg.ung]
      go_wp2
      exact ⟨_, rfl, hG, trivial, rfl⟩
     exact trivial
    case he =>
     intro xs hl0_ wr hG hf
     obtain ⟨x0, xs1, rfl, hl1⟩ := Reg.len_succ hl0_
     obtain ⟨x1, xs2, rfl, hl2⟩ := Reg.len_succ hl1
     obtain ⟨x2, xs3, rfl, hl3⟩ := Reg.len_succ hl2
     obtain ⟨x3, xs4, rfl, hl4⟩ := Reg.len_succ hl3
     obtain ⟨x4, xs5, rfl, hl5⟩ := Reg.len_succ hl4
     obtain ⟨x5, xs6, rfl, hl6⟩ := Reg.len_succ hl5
     obtain ⟨x6, xs7, rfl, hl7⟩ := Reg.len_succ hl6
     obtain ⟨x7, xs8, rfl, hl8⟩ := Reg.len_succ hl7
     obtain ⟨x8, xs9, rfl, hl9⟩ := Reg.len_succ hl8
     obtain ⟨x9, xs10, rfl, hl10⟩ := Reg.len_succ hl9
     obtain ⟨x10, xs11, rfl, hl11⟩ := Reg.len_succ hl10
     obtain ⟨x11, xs12, rfl, hl12⟩ := Reg.len_succ hl11
     obtain rfl := List.eq_nil_of_length_eq_zero hl12
     clear hl0_ hl1 hl2 hl3 hl4 hl5 hl6 hl7 hl8 hl9 hl10 hl11 hl12
     obtain ⟨hq0, hq1, hq2, hq3, hq4, hq5, hq6, hq7, hq8, hq9, hq10, hq11, -⟩ := hf
     obtain rfl : x0 = _ := hq0
     obtain rfl : x1 = _ := hq1
     obtain rfl : x2 = _ := hq2
     obtain rfl : x3 = _ := hq3
     obtain rfl : x4 = _ := hq4
     obtain rfl : x5 = _ := hq5
     obtain rfl : x6 = _ := hq6
     obtain rfl : x7 = _ := hq7
     obtain rfl : x8 = _ := hq8
     obtain rfl : x9 = _ := hq9
     obtain rfl : x10 = _ := hq10
     obtain rfl : x11 = _ := hq11
     simp only [Reg.putL, Act.put, List.setIfInBounds_toArray, List.set_cons_succ, List.set_cons_zero]
     have HGX := Aside0.mk (below_then HB.out HB.out.size hG)
     clear hG
     cases eb with
     | true =>
      go_wp2_with (fail)
      go_roundg k1
      case measure => omega
      case rel => exact ⟨k + 1, by first | rfl | simp, ⟨by omega⟩, HGX, ⟨fun i hi => by
       by_cases e : i = k
       ·rw [e]; exact HEB.out.symm
       ·exact HE.out i (by omega)⟩⟩
     | false =>
      obtain rfl := HRF.out k hk5 HEB.out.symm
      go_wp2_with (fail)
      go_ret
      exact ⟨rfl, below_then HBW.out HBW.out.size HGX.out⟩
  ·have d1 : decide ((k : Int) < 5) = false := decide_eq_false (by omega)
   have d2 : decide (k < 5) = false := decide_eq_false hk5
   obtain rfl : k = 5 := by omega
   have hr := HRK.out (fun i hi => HE.out i hi)
   have hba := (HB.out.block _ (blk_lt HBZA.out)).trans HBZA.out
   have hbb := (HB.out.block _ (blk_lt HBZB.out)).trans HBZB.out
   have s0 := (blk_cell hba 0).trans rfl
   have s6 := (blk_cell hba 6).trans rfl
   have y0 := (blk_cell hbb 0).trans rfl
   have y6 := (blk_cell hbb 6).trans rfl
   have HRR := Aside0.mk hr
   clear hba hbb hr
   go_wp2_with (fail)
   all_goals
    go_ret
    refine ⟨?_, below_then HBW.out HBW.out.size HB.out⟩
    rw [HRR.out]
    unfold sameT
    first | rfl | (simp [*]; done) | skip
end Go.Proofs.YtgipdacenppmdaaGreatDoor.G
