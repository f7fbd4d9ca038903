/- Check: the walk. -/
import Derived.Test.YtgipdacenppmdaaDoorIG
set_option linter.unusedVariables false
set_option linter.unusedSimpArgs false
namespace Go.Proofs.YtgipdacenppmdaaDoor.G
open Go.RowKit Go.Shelf Go.Lib Go.Sort Go.Proofs.YtgipdacenppmdaaDoorW.PrintWords Go.Proofs.YtgipdacenppmdaaDoor.P
def mayB (k n : Int) : Bool :=
 if k = 0 then decide (0 ≤ n ∧ n ≤ 6) else if k = 1 then decide (1 ≤ n ∧ n ≤ 12)
 else if k = 2 then decide (1 ≤ n ∧ n ≤ 31 ∨ -31 ≤ n ∧ n ≤ -1) else if k = 3 then decide (1 ≤ n ∧ n ≤ 9999) else decide (0 ≤ n ∧ n ≤ 1440)
def rightB (k a b : Int) : Bool :=
 mayB k a && (mayB k b && (if k = 4 then decide (a < b) else if k = 2 ∧ (decide (a < 0) != decide (b < 0)) = true then true else decide (a ≤ b)))
theorem may_f (k n : Int) : interval_kind_may.f k n = some (mayB k n) := by
 unfold interval_kind_may.f interval_kind_bounds.f mayB
 by_cases h0 : k = 0
 ·subst h0; simp only [if_true, Option.bind_some, show ¬ ((0 : Int) = 2) by omega, if_false]
  by_cases h : n ≥ 0 <;> simp [h]
 ·by_cases h1 : k = 1
  ·subst h1; simp only [h0, if_true, if_false, Option.bind_some, show ¬ ((1 : Int) = 2) by omega]
   by_cases h : n ≥ 1 <;> simp [h]
  ·by_cases h2 : k = 2
   ·subst h2; simp only [h0, h1, if_true, if_false, Option.bind_some, show wrap64 (-31) = -31 by kernel_rfl, show wrap64 (-1) = -1 by kernel_rfl]
    by_cases h : n < 0
    ·rw [if_pos h]
     by_cases h' : n ≥ -31
     ·rw [if_pos h']; congr 1; apply decide_eq_decide.2; omega
     ·rw [if_neg h']; congr 1; symm; apply decide_eq_false; omega
    ·rw [if_neg h]
     by_cases h' : n ≥ 1
     ·rw [if_pos h']; congr 1; apply decide_eq_decide.2; omega
     ·rw [if_neg h']; congr 1; symm; apply decide_eq_false; omega
   ·by_cases h3 : k = 3
    ·subst h3; simp only [h0, h1, h2, if_true, if_false, Option.bind_some]
     by_cases h : n ≥ 1 <;> simp [h]
    ·simp only [h0, h1, h2, h3, if_false, Option.bind_some]
     by_cases h : n ≥ 0 <;> simp [h]
theorem right_f (k a b : Int) : interval_kind_right.f 2 k a b = some (rightB k a b) := by
 unfold interval_kind_right.f rightB
 rw [may_f, may_f]
 simp only [Option.bind_some]
 cases mayB k a
 ·simp [interval_kind_right.j0]
 ·cases mayB k b
  ·simp [interval_kind_right.j0]
  ·simp only [interval_kind_right.j0, Bool.not_true, if_true, Bool.true_and, if_false, Bool.false_eq_true]
   by_cases h4 : k = 4
   ·rw [if_pos h4, if_pos h4]
   ·rw [if_neg h4, if_neg h4]
    by_cases h2 : k = 2
    ·rw [if_pos h2]
     by_cases h : (decide (a < 0) != decide (b < 0)) = true
     ·rw [if_pos h, if_pos ⟨h2, h⟩]
     ·rw [if_neg h, if_neg (fun h' => h h'.2)]
    ·rw [if_neg h2, if_neg (fun h' => h2 h'.1)]
theorem notright_at (k : Int) (bx : Nat) (x : S37) (w : World) (h : w.heap[bx]? = some (.cells #[.func (.func 15) #[.int .i64 k] #[]] 47 (0, 0))) :
  Calls Tryd.prog 22 #[.agg #[.int .i64 x.f0, .int .i64 x.f1], .pointer (some ⟨bx, 0, none⟩)] w fun e w' => e = .returned (.bool (!rightB k x.f0 x.f1)) ∧ Below w.heap.size w w' := by
 have hc : w.cell? ⟨bx, 0, none⟩ = some (.func (.func 15) #[.int .i64 k] #[]) := (blk_cell h 0).trans rfl
 have hne : bx ≠ w.heap.size := by have := blk_lt h; omega
 have hlt : bx < w.heap.size := blk_lt h
 clear h
 go_enter Tryd.func22, Tryd.ntmps22
 go_wp2_with (fail)
 refine (interval_kind_right.calls 2 k x.f0 x.f1 _ _ (right_f k x.f0 x.f1)).mono ?_
 rintro e w1 ⟨rfl, hb⟩
 have HB := Aside0.mk (below_then (below_alloc (Below.refl w.heap.size w) (.cells #[.int .i64 x.f0, .int .i64 x.f1] 37)) (by simp) hb)
 clear hb
 go_wp2_with (fail)
 go_ret
 exact ⟨rfl, HB.out⟩
theorem eg55 : ∀ args w, (callFunc 22 args).run Tryd.prog w = .ok (.enter 22 args) w := enters_of Tryd.func22 (by kernel_rfl) rfl
instance : Inhabited S37 := ⟨⟨0, 0⟩⟩
def enc55 (x : S37) : List Value := [.int .i64 x.f0, .int .i64 x.f1]
theorem ranges_cells {w : World} {A : Option Addr} {l : List S37} (h : Kd.C k37 w A l.length l) (hp : 0 < l.length) :
  ∃ b off, A = some ⟨b, off, none⟩ ∧ b < w.heap.size ∧ ∀ j, j < l.length → ∀ i v, (enc55 l[j]!)[i]? = some v → w.cell? ⟨b, off + j * 2 + i, none⟩ = some v := by
 obtain ⟨ad, c, rfl, _, hK, hc0⟩ := Kd.C_get h (⟨0, 0⟩ : S37) 0 (by omega) (by omega)
 obtain rfl := k37_open hK
 have hcell := hc0 0 _ rfl
 obtain ⟨b, off, sp⟩ := ad
 cases sp with
 | some s =>
  exfalso
  simp only [World.cell?, Addr.add] at hcell
  split at hcell <;> simp_all
 | none =>
  refine ⟨b, off, rfl, ?_, fun j hj i v hv => ?_⟩
  ·have h1 := World.block_lt_of_cell? w _ hcell
   have h2 : ((⟨b, off, none⟩ : Addr).add ((0 : Int).toNat * k37.sz + 0)).block = b := by unfold Addr.add; split <;> rfl
   rw [h2] at h1
   exact h1
  ·obtain ⟨ad2, c2, hA2, _, hK2, hc2⟩ := Kd.C_get h (⟨0, 0⟩ : S37) (j : Int) (by omega) (by omega)
   obtain rfl := Option.some.inj hA2
   obtain rfl := k37_open hK2
   have hx : l.getD (j : Int).toNat (⟨0, 0⟩ : S37) = l[j]! := by simp [hj]
   rw [hx] at hc2
   have := hc2 i v hv
   rw [Int.toNat_natCast, show k37.sz = 2 from rfl, Addr.add_lit] at this
   rw [Nat.add_assoc]
   exact this
theorem indexR_nil (A : Option Addr) (c : Nat) (g : Nat) (lb : Array Value) (w : World) : Calls Tryd.prog 34 #[.slice A 0 c, .func (.func g) #[] lb] w fun e w' => e = .returned (.int .i64 (-1)) ∧ w' = w := by
 go_enter Tryd.func34, Tryd.ntmps34
 go_wp2_with (fail)
 go_loopg [8] 1 (fun kq u8 wr => u8 = .int .i64 0 ∧ Aside0 (wr = w))
 case atStart => exact ⟨rfl, ⟨rfl⟩⟩
 case round =>
  obtain ⟨rfl, HW⟩ := hrel
  obtain rfl := HW.out
  go_wp2_with (fail)
  go_ret
  exact ⟨rfl, rfl⟩
theorem containsR (A : Option Addr) (c : Nat) (l : List S37) (p : S37 → Bool) (g : Nat) (lb : Array Value) (eg : ∀ args w, (callFunc g args).run Tryd.prog w = .ok (.enter g args) w) (w : World) (hC : Kd.C k37 w A l.length l)
  (hp : PredBelow Tryd.prog g lb (fun x => .agg (enc55 x).toArray) p w) :
  Calls Tryd.prog 21 #[.slice A l.length c, .func (.func g) #[] lb] w fun e w' => e = .returned (.bool (l.any p)) ∧ Below w.heap.size w w' := by
 by_cases hl : l = []
 ·subst hl
  go_enter Tryd.func21, Tryd.ntmps21
  go_wp2_with (fail)
  refine (indexR_nil A c g lb w).mono ?_
  rintro e w1 ⟨rfl, rfl⟩
  go_wp2_with (fail)
  go_ret
  exact ⟨rfl, Below.refl _ _⟩
 ·have hlen : 0 < l.length := List.length_pos_iff.2 hl
  obtain ⟨b, off, rfl, hb, hc⟩ := ranges_cells hC hlen
  have := AnyQ.slices_ContainsFunc Tryd.layCR 2 Tryd.isAgg37 Tryd.sizeOf37 enc55 (fun _ => rfl) p g lb eg b off l.length c l w hp (Nat.le_refl _) hC.2.1 hb hc
  rw [List.take_length] at this
  exact this
theorem every_any (A : Option Addr) (c : Nat) (l : List S37) (k : Int) (w : World) (hC : Kd.C k37 w A l.length l) :
  Calls Tryd.prog 14 #[.slice A l.length c, .func (.func 15) #[.int .i64 k] #[]] w fun e w' => e = .returned (.bool (l.all fun x => rightB k x.f0 x.f1)) ∧ Below w.heap.size w w' := by
 have hall : (!(l.any fun x => !rightB k x.f0 x.f1)) = l.all (fun x => rightB k x.f0 x.f1) := by simp [List.any_eq_not_all_not]
 obtain ⟨n, hn⟩ : ∃ n, n = l.length := ⟨_, rfl⟩
 have HALL := Aside0.mk hall
 rw [← hn] at hC ⊢
 have HC := Aside0.mk hC
 have HN := Aside0.mk hn
 clear hC hall hn
 go_enter Tryd.func14, Tryd.ntmps14
 go_wp2_with (fail)
 obtain ⟨bx, hbx⟩ : ∃ bx, bx = w.heap.size := ⟨_, rfl⟩
 obtain ⟨w1, hw1⟩ : ∃ w1, w1 = w.alloc (.cells #[.func (.func 15) #[.int .i64 k] #[]] 47) := ⟨_, rfl⟩
 have HBK := Aside0.mk (show w1.heap[bx]? = some (.cells #[.func (.func 15) #[.int .i64 k] #[]] 47 (0, 0)) by rw [hw1, hbx]; exact heap_alloc_new w _)
 have HB1 := Aside0.mk (show Below w.heap.size w w1 by rw [hw1]; exact below_alloc (Below.refl _ _) _)
 rw [← hw1, ← hbx]
 clear hw1 hbx
 have HCN := Aside0.mk (show Calls Tryd.prog 21 #[.slice A n c, .func (.func 22) #[] #[.pointer (some ⟨bx, 0, none⟩)]] w1 _ by
  rw [HN.out]
  exact containsR A c l (fun x => !rightB k x.f0 x.f1) 22 #[.pointer (some ⟨bx, 0, none⟩)] eg55 w1 (Kd.C_below (by rw [← HN.out]; exact HC.out) HB1.out) (fun W x hW => by
   refine (notright_at k bx x W ((hW.block _ (blk_lt HBK.out)).trans HBK.out)).mono ?_
   rintro e w' ⟨rfl, hb2⟩
   exact ⟨rfl, hW.trans (hb2.mono hW.size)⟩))
 refine HCN.out.mono ?_
 rintro e w2 ⟨rfl, hb⟩
 have HB2 := Aside0.mk (below_then HB1.out HB1.out.size hb)
 clear hb
 obtain ⟨bb, hbb⟩ : ∃ bb, bb = l.any (fun x => !rightB k x.f0 x.f1) := ⟨_, rfl⟩
 rw [← hbb]
 rw [← hbb] at HALL
 clear hbb
 go_wp2_with (fail)
 go_ret
 rw [← HALL.out]
 exact ⟨rfl, HB2.out⟩
@[go_sem] theorem index50_0 (W : World) (a b c d e : Value) : (Instr.index 43 (.agg #[a, b, c, d, e]) (.int .i64 0)).run Tryd.prog W = .ok a W := by kernel_rfl
@[go_sem] theorem index50_1 (W : World) (a b c d e : Value) : (Instr.index 43 (.agg #[a, b, c, d, e]) (.int .i64 1)).run Tryd.prog W = .ok b W := by kernel_rfl
@[go_sem] theorem index50_2 (W : World) (a b c d e : Value) : (Instr.index 43 (.agg #[a, b, c, d, e]) (.int .i64 2)).run Tryd.prog W = .ok c W := by kernel_rfl
@[go_sem] theorem index50_3 (W : World) (a b c d e : Value) : (Instr.index 43 (.agg #[a, b, c, d, e]) (.int .i64 3)).run Tryd.prog W = .ok d W := by kernel_rfl
@[go_sem] theorem index50_4 (W : World) (a b c d e : Value) : (Instr.index 43 (.agg #[a, b, c, d, e]) (.int .i64 4)).run Tryd.prog W = .ok e W := by kernel_rfl
def chk : Int → List (List S37) → Int → Int
 | _, [], ah => if ah < -1440 ∨ 1440 < ah then 2 else 0
 | k, l :: t, ah => if 8 < l.length then 5 else if (l.all fun x => rightB k x.f0 x.f1) = true then chk (k + 1) t ah else 15
def ICheck.f (a0_0 : ByteArray) (l0_1 : List (S37)) (l0_2 : List (S37)) (l0_3 : List (S37)) (l0_4 : List (S37)) (l0_5 : List (S37)) (a0_6 : Int) : Option (Int) :=
 (label_Name.f 40 a0_0).bind fun b => some (if b = true then chk 0 [l0_1, l0_2, l0_3, l0_4, l0_5] a0_6 else 6)
set_option maxHeartbeats 8000000 in
set_option maxRecDepth 100000 in
theorem ICheck.calls (a0_0 : ByteArray) (A0_1 : Option Addr) (c0_1 : Nat) (l0_1 : List (S37)) (A0_2 : Option Addr) (c0_2 : Nat) (l0_2 : List (S37)) (A0_3 : Option Addr) (c0_3 : Nat) (l0_3 : List (S37)) (A0_4 : Option Addr) (c0_4 : Nat) (l0_4 : List (S37)) (A0_5 : Option Addr) (c0_5 : Nat) (l0_5 : List (S37)) (a0_6 : Int) (r : Int) (w : World) (hr0_1 : Kd.C k37 w A0_1 l0_1.length l0_1) (hc0_1 : l0_1.length ≤ c0_1) (hr0_2 : Kd.C k37 w A0_2 l0_2.length l0_2) (hc0_2 : l0_2.length ≤ c0_2) (hr0_3 : Kd.C k37 w A0_3 l0_3.length l0_3) (hc0_3 : l0_3.length ≤ c0_3) (hr0_4 : Kd.C k37 w A0_4 l0_4.length l0_4) (hc0_4 : l0_4.length ≤ c0_4) (hr0_5 : Kd.C k37 w A0_5 l0_5.length l0_5) (hc0_5 : l0_5.length ≤ c0_5) (h : ICheck.f a0_0 l0_1 l0_2 l0_3 l0_4 l0_5 a0_6 = some r) :
  Calls Tryd.prog 7 #[.agg #[.string a0_0, .slice A0_1 l0_1.length c0_1, .slice A0_2 l0_2.length c0_2, .slice A0_3 l0_3.length c0_3, .slice A0_4 l0_4.length c0_4, .slice A0_5 l0_5.length c0_5, .int .i64 a0_6]] w fun e w' => e = .returned (.int .i64 r) ∧ Below w.heap.size w w' := by
 unfold ICheck.f at h
 obtain ⟨nb, hnb, h'⟩ := Option.bind_eq_some_iff.1 h
 have HNB := Aside0.mk hnb
 have hr := Option.some.inj h'
 clear h h' hnb
 obtain ⟨n1, hn1⟩ : ∃ n, n = l0_1.length := ⟨_, rfl⟩
 have HN1 := Aside0.mk hn1
 have HC1 := Aside0.mk hr0_1
 rw [← hn1]
 obtain ⟨n2, hn2⟩ : ∃ n, n = l0_2.length := ⟨_, rfl⟩
 have HN2 := Aside0.mk hn2
 have HC2 := Aside0.mk hr0_2
 rw [← hn2]
 obtain ⟨n3, hn3⟩ : ∃ n, n = l0_3.length := ⟨_, rfl⟩
 have HN3 := Aside0.mk hn3
 have HC3 := Aside0.mk hr0_3
 rw [← hn3]
 obtain ⟨n4, hn4⟩ : ∃ n, n = l0_4.length := ⟨_, rfl⟩
 have HN4 := Aside0.mk hn4
 have HC4 := Aside0.mk hr0_4
 rw [← hn4]
 obtain ⟨n5, hn5⟩ : ∃ n, n = l0_5.length := ⟨_, rfl⟩
 have HN5 := Aside0.mk hn5
 have HC5 := Aside0.mk hr0_5
 rw [← hn5]
 clear hn1 hr0_1 hc0_1 hn2 hr0_2 hc0_2 hn3 hr0_3 hc0_3 hn4 hr0_4 hc0_4 hn5 hr0_5 hc0_5
 cases nb with
 | false =>
  obtain rfl : 6 = r := hr
  go_enter Tryd.func7, Tryd.ntmps7
  go_wp2_with (fail)
  refine (label_Name.calls 40 a0_0 _ _ HNB.out).mono ?_
  rintro e w2 ⟨rfl, hd⟩
  have HB := Aside0.mk (below_then (below_alloc (Below.refl w.heap.size w) (.cells #[.string a0_0, .slice A0_1 n1 c0_1, .slice A0_2 n2 c0_2, .slice A0_3 n3 c0_3, .slice A0_4 n4 c0_4, .slice A0_5 n5 c0_5, .int .i64 a0_6] 24)) (by simp) hd.below)
  clear hd
  go_wp2_with (fail)
  go_ret
  exact ⟨rfl, HB.out⟩
 | true =>
  replace hr : chk 0 [l0_1, l0_2, l0_3, l0_4, l0_5] a0_6 = r := hr
  have HR := Aside0.mk hr
  clear hr
  go_enter Tryd.func7, Tryd.ntmps7
  go_wp2_with (fail)
  obtain ⟨bx, hbx⟩ : ∃ bx, bx = w.heap.size := ⟨_, rfl⟩
  obtain ⟨w1, hw1⟩ : ∃ w1, w1 = w.alloc (.cells #[.string a0_0, .slice A0_1 n1 c0_1, .slice A0_2 n2 c0_2, .slice A0_3 n3 c0_3, .slice A0_4 n4 c0_4, .slice A0_5 n5 c0_5, .int .i64 a0_6] 24) := ⟨_, rfl⟩
  have HBK := Aside0.mk (show w1.heap[bx]? = some (.cells #[.string a0_0, .slice A0_1 n1 c0_1, .slice A0_2 n2 c0_2, .slice A0_3 n3 c0_3, .slice A0_4 n4 c0_4, .slice A0_5 n5 c0_5, .int .i64 a0_6] 24 (0, 0)) by rw [hw1, hbx]; exact heap_alloc_new w _)
  have HB1 := Aside0.mk (show Below w.heap.size w w1 by rw [hw1]; exact below_alloc (Below.refl _ _) _)
  rw [← hw1, ← hbx]
  clear hw1 hbx
  refine (label_Name.calls 40 a0_0 _ _ HNB.out).mono ?_
  rintro e w2 ⟨rfl, hd⟩
  have HB2 := Aside0.mk hd.below
  clear hd
  go_wp2_with (fail)
  refine (of_any bx w2).mono ?_
  rintro e w3 ⟨rfl, hb⟩
  have HB3 := Aside0.mk (below_then HB2.out HB2.out.size hb)
  clear hb HB2
  unfold parts
  go_wp2_with (fail)
  go_loopg [10] 6 (fun kq v10 wr => ∃ (j : Nat), v10 = .int .i64 (j : Int) ∧ Aside0 (j ≤ 5 ∧ j + kq = 6) ∧ Aside0 (Below w1.heap.size w1 wr) ∧ Aside0 (chk (j : Int) ([l0_1, l0_2, l0_3, l0_4, l0_5].drop j) a0_6 = r))
  case atStart => exact ⟨0, rfl, ⟨by omega⟩, HB3, HR⟩
  case round =>
   clear HB3 HR
   obtain ⟨j, rfl, HJ, HB, HR⟩ := hrel
   obtain ⟨hj0, hjk⟩ := HJ.out
   have hbk := (HB.out.block _ (blk_lt HBK.out)).trans HBK.out
   have hj : j = 0 ∨ j = 1 ∨ j = 2 ∨ j = 3 ∨ j = 4 ∨ j = 5 := by omega
   rcases hj with rfl | rfl | rfl | rfl | rfl | rfl
   ·cases gk with
    | zero => exact absurd hjk (by omega)
    | succ k1 =>
     have cz := (blk_cell hbk 1).trans rfl
     have hr : (if 8 < l0_1.length then 5 else if (l0_1.all fun x => rightB 0 x.f0 x.f1) = true then chk (1 : Nat) ([l0_1, l0_2, l0_3, l0_4, l0_5].drop 1) a0_6 else 15) = r := HR.out
     rw [← HN1.out] at hr
     clear hbk HR
     by_cases h8 : 8 < n1
     ·rw [if_pos h8] at hr
      subst hr
      have d1 : decide ((n1 : Int) > 8) = true := decide_eq_true (by omega)
      have d2 : decide ((8 : Int) < (n1 : Int)) = true := d1
      have d3 : decide (8 < n1) = true := decide_eq_true h8
      go_wp2_with (fail)
      go_ret
      exact ⟨rfl, below_then HB1.out HB1.out.size HB.out⟩
     ·rw [if_neg h8] at hr
      have d1 : decide ((n1 : Int) > 8) = false := decide_eq_false (by omega)
      have d2 : decide ((8 : Int) < (n1 : Int)) = false := d1
      have d3 : decide (8 < n1) = false := decide_eq_false h8
      have HE := Aside0.mk (show ∀ W, Below w1.heap.size w1 W → Calls Tryd.prog 14 #[.slice A0_1 n1 c0_1, .func (.func 15) #[.int .i64 0] #[]] W _ from fun W hW => by
       have hC := Kd.C_below (Kd.C_below HC1.out HB1.out) hW
       rw [HN1.out]
       exact every_any A0_1 c0_1 l0_1 0 W hC)
      obtain ⟨b, hb⟩ : ∃ b, b = (l0_1.all fun x => rightB 0 x.f0 x.f1) := ⟨_, rfl⟩
      rw [← hb] at hr HE
      clear hb
      cases b with
      | true =>
       rw [if_pos rfl] at hr
       have HR := Aside0.mk hr
       clear hr
       go_wp2_with (fail)
       refine (HE.out wr HB.out).mono ?_
       rintro e w5 ⟨rfl, hb5⟩
       have HB5 := Aside0.mk (below_then HB.out HB.out.size hb5)
       clear hb5 cz
       go_wp2_with (fail)
       go_roundg k1
       case measure => omega
       case rel => exact ⟨1, by first | rfl | simp, ⟨by omega⟩, HB5, HR⟩
      | false =>
       rw [if_neg (fun h => by cases h)] at hr
       subst hr
       go_wp2_with (fail)
       refine (HE.out wr HB.out).mono ?_
       rintro e w5 ⟨rfl, hb5⟩
       have HB5 := Aside0.mk (below_then HB.out HB.out.size hb5)
       clear hb5 cz
       go_wp2_with (fail)
       go_ret
       exact ⟨rfl, below_then HB1.out HB1.out.size HB5.out⟩
   ·cases gk with
    | zero => exact absurd hjk (by omega)
    | succ k1 =>
     have cz := (blk_cell hbk 2).trans rfl
     have hr : (if 8 < l0_2.length then 5 else if (l0_2.all fun x => rightB 1 x.f0 x.f1) = true then chk (2 : Nat) ([l0_1, l0_2, l0_3, l0_4, l0_5].drop 2) a0_6 else 15) = r := HR.out
     rw [← HN2.out] at hr
     clear hbk HR
     by_cases h8 : 8 < n2
     ·rw [if_pos h8] at hr
      subst hr
      have d1 : decide ((n2 : Int) > 8) = true := decide_eq_true (by omega)
      have d2 : decide ((8 : Int) < (n2 : Int)) = true := d1
      have d3 : decide (8 < n2) = true := decide_eq_true h8
      go_wp2_with (fail)
      go_ret
      exact ⟨rfl, below_then HB1.out HB1.out.size HB.out⟩
     ·rw [if_neg h8] at hr
      have d1 : decide ((n2 : Int) > 8) = false := decide_eq_false (by omega)
      have d2 : decide ((8 : Int) < (n2 : Int)) = false := d1
      have d3 : decide (8 < n2) = false := decide_eq_false h8
      have HE := Aside0.mk (show ∀ W, Below w1.heap.size w1 W → Calls Tryd.prog 14 #[.slice A0_2 n2 c0_2, .func (.func 15) #[.int .i64 1] #[]] W _ from fun W hW => by
       have hC := Kd.C_below (Kd.C_below HC2.out HB1.out) hW
       rw [HN2.out]
       exact every_any A0_2 c0_2 l0_2 1 W hC)
      obtain ⟨b, hb⟩ : ∃ b, b = (l0_2.all fun x => rightB 1 x.f0 x.f1) := ⟨_, rfl⟩
      rw [← hb] at hr HE
      clear hb
      cases b with
      | true =>
       rw [if_pos rfl] at hr
       have HR := Aside0.mk hr
       clear hr
       go_wp2_with (fail)
       refine (HE.out wr HB.out).mono ?_
       rintro e w5 ⟨rfl, hb5⟩
       have HB5 := Aside0.mk (below_then HB.out HB.out.size hb5)
       clear hb5 cz
       go_wp2_with (fail)
       go_roundg k1
       case measure => omega
       case rel => exact ⟨2, by first | rfl | simp, ⟨by omega⟩, HB5, HR⟩
      | false =>
       rw [if_neg (fun h => by cases h)] at hr
       subst hr
       go_wp2_with (fail)
       refine (HE.out wr HB.out).mono ?_
       rintro e w5 ⟨rfl, hb5⟩
       have HB5 := Aside0.mk (below_then HB.out HB.out.size hb5)
       clear hb5 cz
       go_wp2_with (fail)
       go_ret
       exact ⟨rfl, below_then HB1.out HB1.out.size HB5.out⟩
   ·cases gk with
    | zero => exact absurd hjk (by omega)
    | succ k1 =>
     have cz := (blk_cell hbk 3).trans rfl
     have hr : (if 8 < l0_3.length then 5 else if (l0_3.all fun x => rightB 2 x.f0 x.f1) = true then chk (3 : Nat) ([l0_1, l0_2, l0_3, l0_4, l0_5].drop 3) a0_6 else 15) = r := HR.out
     rw [← HN3.out] at hr
     clear hbk HR
     by_cases h8 : 8 < n3
     ·rw [if_pos h8] at hr
      subst hr
      have d1 : decide ((n3 : Int) > 8) = true := decide_eq_true (by omega)
      have d2 : decide ((8 : Int) < (n3 : Int)) = true := d1
      have d3 : decide (8 < n3) = true := decide_eq_true h8
      go_wp2_with (fail)
      go_ret
      exact ⟨rfl, below_then HB1.out HB1.out.size HB.out⟩
     ·rw [if_neg h8] at hr
      have d1 : decide ((n3 : Int) > 8) = false := decide_eq_false (by omega)
      have d2 : decide ((8 : Int) < (n3 : Int)) = false := d1
      have d3 : decide (8 < n3) = false := decide_eq_false h8
      have HE := Aside0.mk (show ∀ W, Below w1.heap.size w1 W → Calls Tryd.prog 14 #[.slice A0_3 n3 c0_3, .func (.func 15) #[.int .i64 2] #[]] W _ from fun W hW => by
       have hC := Kd.C_below (Kd.C_below HC3.out HB1.out) hW
       rw [HN3.out]
       exact every_any A0_3 c0_3 l0_3 2 W hC)
      obtain ⟨b, hb⟩ : ∃ b, b = (l0_3.all fun x => rightB 2 x.f0 x.f1) := ⟨_, rfl⟩
      rw [← hb] at hr HE
      clear hb
      cases b with
      | true =>
       rw [if_pos rfl] at hr
       have HR := Aside0.mk hr
       clear hr
       go_wp2_with (fail)
       refine (HE.out wr HB.out).mono ?_
       rintro e w5 ⟨rfl, hb5⟩
       have HB5 := Aside0.mk (below_then HB.out HB.out.size hb5)
       clear hb5 cz
       go_wp2_with (fail)
       go_roundg k1
       case measure => omega
       case rel => exact ⟨3, by first | rfl | simp, ⟨by omega⟩, HB5, HR⟩
      | false =>
       rw [if_neg (fun h => by cases h)] at hr
       subst hr
       go_wp2_with (fail)
       refine (HE.out wr HB.out).mono ?_
       rintro e w5 ⟨rfl, hb5⟩
       have HB5 := Aside0.mk (below_then HB.out HB.out.size hb5)
       clear hb5 cz
       go_wp2_with (fail)
       go_ret
       exact ⟨rfl, below_then HB1.out HB1.out.size HB5.out⟩
   ·cases gk with
    | zero => exact absurd hjk (by omega)
    | succ k1 =>
     have cz := (blk_cell hbk 4).trans rfl
     have hr : (if 8 < l0_4.length then 5 else if (l0_4.all fun x => rightB 3 x.f0 x.f1) = true then chk (4 : Nat) ([l0_1, l0_2, l0_3, l0_4, l0_5].drop 4) a0_6 else 15) = r := HR.out
     rw [← HN4.out] at hr
     clear hbk HR
     by_cases h8 : 8 < n4
     ·rw [if_pos h8] at hr
      subst hr
      have d1 : decide ((n4 : Int) > 8) = true := decide_eq_true (by omega)
      have d2 : decide ((8 : Int) < (n4 : Int)) = true := d1
      have d3 : decide (8 < n4) = true := decide_eq_true h8
      go_wp2_with (fail)
      go_ret
      exact ⟨rfl, below_then HB1.out HB1.out.size HB.out⟩
     ·rw [if_neg h8] at hr
      have d1 : decide ((n4 : Int) > 8) = false := decide_eq_false (by omega)
      have d2 : decide ((8 : Int) < (n4 : Int)) = false := d1
      have d3 : decide (8 < n4) = false := decide_eq_false h8
      have HE := Aside0.mk (show ∀ W, Below w1.heap.size w1 W → Calls Tryd.prog 14 #[.slice A0_4 n4 c0_4, .func (.func 15) #[.int .i64 3] #[]] W _ from fun W hW => by
       have hC := Kd.C_below (Kd.C_below HC4.out HB1.out) hW
       rw [HN4.out]
       exact every_any A0_4 c0_4 l0_4 3 W hC)
      obtain ⟨b, hb⟩ : ∃ b, b = (l0_4.all fun x => rightB 3 x.f0 x.f1) := ⟨_, rfl⟩
      rw [← hb] at hr HE
      clear hb
      cases b with
      | true =>
       rw [if_pos rfl] at hr
       have HR := Aside0.mk hr
       clear hr
       go_wp2_with (fail)
       refine (HE.out wr HB.out).mono ?_
       rintro e w5 ⟨rfl, hb5⟩
       have HB5 := Aside0.mk (below_then HB.out HB.out.size hb5)
       clear hb5 cz
       go_wp2_with (fail)
       go_roundg k1
       case measure => omega
       case rel => exact ⟨4, by first | rfl | simp, ⟨by omega⟩, HB5, HR⟩
      | false =>
       rw [if_neg (fun h => by cases h)] at hr
       subst hr
       go_wp2_with (fail)
       refine (HE.out wr HB.out).mono ?_
       rintro e w5 ⟨rfl, hb5⟩
       have HB5 := Aside0.mk (below_then HB.out HB.out.size hb5)
       clear hb5 cz
       go_wp2_with (fail)
       go_ret
       exact ⟨rfl, below_then HB1.out HB1.out.size HB5.out⟩
   ·cases gk with
    | zero => exact absurd hjk (by omega)
    | succ k1 =>
     have cz := (blk_cell hbk 5).trans rfl
     have hr : (if 8 < l0_5.length then 5 else if (l0_5.all fun x => rightB 4 x.f0 x.f1) = true then chk (5 : Nat) ([l0_1, l0_2, l0_3, l0_4, l0_5].drop 5) a0_6 else 15) = r := HR.out
     rw [← HN5.out] at hr
     clear hbk HR
     by_cases h8 : 8 < n5
     ·rw [if_pos h8] at hr
      subst hr
      have d1 : decide ((n5 : Int) > 8) = true := decide_eq_true (by omega)
      have d2 : decide ((8 : Int) < (n5 : Int)) = true := d1
      have d3 : decide (8 < n5) = true := decide_eq_true h8
      go_wp2_with (fail)
      go_ret
      exact ⟨rfl, below_then HB1.out HB1.out.size HB.out⟩
     ·rw [if_neg h8] at hr
      have d1 : decide ((n5 : Int) > 8) = false := decide_eq_false (by omega)
      have d2 : decide ((8 : Int) < (n5 : Int)) = false := d1
      have d3 : decide (8 < n5) = false := decide_eq_false h8
      have HE := Aside0.mk (show ∀ W, Below w1.heap.size w1 W → Calls Tryd.prog 14 #[.slice A0_5 n5 c0_5, .func (.func 15) #[.int .i64 4] #[]] W _ from fun W hW => by
       have hC := Kd.C_below (Kd.C_below HC5.out HB1.out) hW
       rw [HN5.out]
       exact every_any A0_5 c0_5 l0_5 4 W hC)
      obtain ⟨b, hb⟩ : ∃ b, b = (l0_5.all fun x => rightB 4 x.f0 x.f1) := ⟨_, rfl⟩
      rw [← hb] at hr HE
      clear hb
      cases b with
      | true =>
       rw [if_pos rfl] at hr
       have HR := Aside0.mk hr
       clear hr
       go_wp2_with (fail)
       refine (HE.out wr HB.out).mono ?_
       rintro e w5 ⟨rfl, hb5⟩
       have HB5 := Aside0.mk (below_then HB.out HB.out.size hb5)
       clear hb5 cz
       go_wp2_with (fail)
       go_roundg k1
       case measure => omega
       case rel => exact ⟨5, by first | rfl | simp, ⟨by omega⟩, HB5, HR⟩
      | false =>
       rw [if_neg (fun h => by cases h)] at hr
       subst hr
       go_wp2_with (fail)
       refine (HE.out wr HB.out).mono ?_
       rintro e w5 ⟨rfl, hb5⟩
       have HB5 := Aside0.mk (below_then HB.out HB.out.size hb5)
       clear hb5 cz
       go_wp2_with (fail)
       go_ret
       exact ⟨rfl, below_then HB1.out HB1.out.size HB5.out⟩
   ·have cz := (blk_cell hbk 6).trans rfl
    have hr : (if a0_6 < -1440 ∨ 1440 < a0_6 then (2 : Int) else 0) = r := HR.out
    clear hbk HR
    by_cases h1 : a0_6 < -1440
    ·rw [if_pos (.inl h1)] at hr
     subst hr
     have d1 : decide (a0_6 < -1440) = true := decide_eq_true h1
     go_wp2_with (fail)
     go_ret
     exact ⟨rfl, below_then HB1.out HB1.out.size HB.out⟩
    ·have d1 : decide (a0_6 < -1440) = false := decide_eq_false h1
     by_cases h2 : 1440 < a0_6
     ·rw [if_pos (.inr h2)] at hr
      subst hr
      have d2 : decide (a0_6 > 1440) = true := decide_eq_true h2
      have d3 : decide (1440 < a0_6) = true := d2
      go_wp2_with (fail)
      go_ret
      exact ⟨rfl, below_then HB1.out HB1.out.size HB.out⟩
     ·rw [if_neg (by omega)] at hr
      subst hr
      have d2 : decide (a0_6 > 1440) = false := decide_eq_false h2
      have d3 : decide (1440 < a0_6) = false := d2
      go_wp2_with (fail)
      go_ret
      exact ⟨rfl, below_then HB1.out HB1.out.size HB.out⟩
end Go.Proofs.YtgipdacenppmdaaDoor.G
