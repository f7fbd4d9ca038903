/- Has: the walk of 'at'. -/
import Derived.Test.YtgipdacenppmdaaDoorIC
set_option linter.unusedVariables false
set_option linter.unusedSimpArgs false
namespace Go.Proofs.YtgipdacenppmdaaDoor.G
open Go.RowKit Go.Shelf Go.Lib Go.Sort Go.Proofs.YtgipdacenppmdaaDoorW.PrintWords Go.Proofs.YtgipdacenppmdaaDoor.P
theorem numbers_any (y m d wd mi se : Int) (w : World) : Calls Tryd.prog 31 #[.agg #[.int .i64 y, .int .i64 m, .int .i64 d, .int .i64 wd, .int .i64 mi, .int .i64 se]] w fun e w' => e = .returned (.agg #[.int .i64 wd, .int .i64 m, .int .i64 d, .int .i64 y, .int .i64 mi]) ∧ Below w.heap.size w w' := by
 go_enter Tryd.func31, Tryd.ntmps31
 go_wp2_with (fail)
 obtain ⟨p, hp⟩ : ∃ p, p = w.heap.size := ⟨_, rfl⟩
 refine bodyPost_ret (results_cell_row rfl _ _ (w.heap.size + 1) 71 #[.int .i64 wd, .int .i64 m, .int .i64 d, .int .i64 y, .int .i64 mi] (0, 0) _ rfl ?_ Tryd.underlying71 rfl (by kernel_rfl)) rfl ?_
 ·have h := heap_alloc_new (w.alloc (.cells #[.int .i64 y, .int .i64 m, .int .i64 d, .int .i64 wd, .int .i64 mi, .int .i64 se] 30)) (.cells #[.int .i64 wd, .int .i64 m, .int .i64 d, .int .i64 y, .int .i64 mi] 71)
  rw [show (w.alloc (.cells #[.int .i64 y, .int .i64 m, .int .i64 d, .int .i64 wd, .int .i64 mi, .int .i64 se] 30)).heap.size = w.heap.size + 1 by simp] at h
  exact h
 ·exact ⟨rfl, below_alloc (below_alloc (Below.refl _ _) _) _⟩
def inB (k long n : Int) (x : S37) : Bool :=
 decide ((if k = 2 ∧ x.f0 < 0 then wrap64 (x.f0 + wrap64 (long + 1)) else x.f0) ≤ n) && decide (n ≤ (if k = 2 ∧ x.f1 < 0 then wrap64 (x.f1 + wrap64 (long + 1)) else if k = 4 then wrap64 (x.f1 - 1) else x.f1))
theorem in_at (k long n : Int) (bk bl bn : Nat) (x : S37) (w : World) (h1 : w.heap[bk]? = some (.cells #[.int .i64 k] 48 (0, 0))) (h2 : w.heap[bl]? = some (.cells #[.int .i64 long] 3 (0, 0))) (h3 : w.heap[bn]? = some (.cells #[.int .i64 n] 3 (0, 0))) :
  Calls Tryd.prog 46 #[.agg #[.int .i64 x.f0, .int .i64 x.f1], .pointer (some ⟨bk, 0, none⟩), .pointer (some ⟨bl, 0, none⟩), .pointer (some ⟨bn, 0, none⟩)] w fun e w' => e = .returned (.bool (inB k long n x)) ∧ Below w.heap.size w w' := by
 have hlk : bk < w.heap.size := blk_lt h1
 have hll : bl < w.heap.size := blk_lt h2
 have hln : bn < w.heap.size := blk_lt h3
 have ck : w.cell? ⟨bk, 0, none⟩ = some (.int .i64 k) := (blk_cell h1 0).trans rfl
 have cl : w.cell? ⟨bl, 0, none⟩ = some (.int .i64 long) := (blk_cell h2 0).trans rfl
 have cn : w.cell? ⟨bn, 0, none⟩ = some (.int .i64 n) := (blk_cell h3 0).trans rfl
 have nk : bk ≠ w.heap.size := by omega
 have nl : bl ≠ w.heap.size := by omega
 have nn : bn ≠ w.heap.size := by omega
 clear h1 h2 h3
 unfold inB
 by_cases hk2 : k = 2
 ·subst hk2
  by_cases ha : x.f0 < 0
  ·have da : decide (x.f0 < 0) = true := decide_eq_true ha
   by_cases hb : x.f1 < 0
   ·have db : decide (x.f1 < 0) = true := decide_eq_true hb
    rw [if_pos ⟨rfl, ha⟩, if_pos ⟨rfl, hb⟩]
    go_enter Tryd.func46, Tryd.ntmps46
    go_wp2_with (fail)
    all_goals
     go_ret
     refine ⟨?_, below_alloc (Below.refl _ _) _⟩
     first | rfl | (simp [*]; done) | (simp [*]; intro hh; omega) | (simp [*]; omega)
   ·have db : decide (x.f1 < 0) = false := decide_eq_false hb
    rw [if_pos ⟨rfl, ha⟩, if_neg (fun h => hb h.2), if_neg (by omega)]
    go_enter Tryd.func46, Tryd.ntmps46
    go_wp2_with (fail)
    all_goals
     go_ret
     refine ⟨?_, below_alloc (Below.refl _ _) _⟩
     first | rfl | (simp [*]; done) | (simp [*]; intro hh; omega) | (simp [*]; omega)
  ·have da : decide (x.f0 < 0) = false := decide_eq_false ha
   by_cases hb : x.f1 < 0
   ·have db : decide (x.f1 < 0) = true := decide_eq_true hb
    rw [if_neg (fun h => ha h.2), if_pos ⟨rfl, hb⟩]
    go_enter Tryd.func46, Tryd.ntmps46
    go_wp2_with (fail)
    all_goals
     go_ret
     refine ⟨?_, below_alloc (Below.refl _ _) _⟩
     first | rfl | (simp [*]; done) | (simp [*]; intro hh; omega) | (simp [*]; omega)
   ·have db : decide (x.f1 < 0) = false := decide_eq_false hb
    rw [if_neg (fun h => ha h.2), if_neg (fun h => hb h.2), if_neg (by omega)]
    go_enter Tryd.func46, Tryd.ntmps46
    go_wp2_with (fail)
    all_goals
     go_ret
     refine ⟨?_, below_alloc (Below.refl _ _) _⟩
     first | rfl | (simp [*]; done) | (simp [*]; intro hh; omega) | (simp [*]; omega)
 ·have d2 : decide (k = 2) = false := decide_eq_false hk2
  have e2 : (k == 2) = false := beq_eq_false_iff_ne.2 hk2
  rw [if_neg (fun h => hk2 h.1), if_neg (fun h => hk2 h.1)]
  by_cases hk4 : k = 4
  ·subst hk4
   rw [if_pos rfl]
   go_enter Tryd.func46, Tryd.ntmps46
   go_wp2_with (fail)
   all_goals
    go_ret
    refine ⟨?_, below_alloc (Below.refl _ _) _⟩
    first | rfl | (simp [*]; done) | (simp [*]; intro hh; omega) | (simp [*]; omega)
  ·have d4 : decide (k = 4) = false := decide_eq_false hk4
   have e4 : (k == 4) = false := beq_eq_false_iff_ne.2 hk4
   rw [if_neg hk4]
   go_enter Tryd.func46, Tryd.ntmps46
   go_wp2_with (fail)
   all_goals
    go_ret
    refine ⟨?_, below_alloc (Below.refl _ _) _⟩
    first | rfl | (simp [*]; done) | (simp [*]; intro hh; omega) | (simp [*]; omega)

theorem eg89 : ∀ args w, (callFunc 46 args).run Tryd.prog w = .ok (.enter 46 args) w := enters_of Tryd.func46 (by kernel_rfl) rfl
theorem in_any (A : Option Addr) (c nl : Nat) (l : List S37) (k n long : Int) (w : World) (hn : nl = l.length) (hC : Kd.C k37 w A l.length l) :
  Calls Tryd.prog 33 #[.int .i64 k, .slice A nl c, .int .i64 n, .int .i64 long] w fun e w' => e = .returned (.bool (l.any (inB k long n))) ∧ Below w.heap.size w w' := by
 have HC := Aside0.mk hC
 have HN := Aside0.mk hn
 clear hC hn
 go_enter Tryd.func33, Tryd.ntmps33
 go_wp2_with (fail)
 obtain ⟨p, hp⟩ : ∃ p, p = w.heap.size := ⟨_, rfl⟩
 obtain ⟨w1, hw1⟩ : ∃ w1, w1 = ((w.alloc (.cells #[.int .i64 k] 48)).alloc (.cells #[.int .i64 n] 3)).alloc (.cells #[.int .i64 long] 3) := ⟨_, rfl⟩
 have HB1 := Aside0.mk (show Below w.heap.size w w1 by rw [hw1]; exact below_alloc (below_alloc (below_alloc (Below.refl _ w) _) _) _)
 have HK := Aside0.mk (show w1.heap[p]? = some (.cells #[.int .i64 k] 48 (0, 0)) by rw [hw1, hp]; exact (heap_alloc_old _ _ (by simp; omega)).trans ((heap_alloc_old _ _ (by simp)).trans (heap_alloc_new w _)))
 have HN1 := Aside0.mk (show w1.heap[p + 1]? = some (.cells #[.int .i64 n] 3 (0, 0)) by
  rw [hw1, hp]
  have h := heap_alloc_new (w.alloc (.cells #[.int .i64 k] 48)) (.cells #[.int .i64 n] 3)
  rw [show (w.alloc (.cells #[.int .i64 k] 48)).heap.size = w.heap.size + 1 by simp] at h
  exact (heap_alloc_old _ _ (by simp)).trans h)
 have HL := Aside0.mk (show w1.heap[p + 1 + 1]? = some (.cells #[.int .i64 long] 3 (0, 0)) by
  rw [hw1, hp]
  have h := heap_alloc_new ((w.alloc (.cells #[.int .i64 k] 48)).alloc (.cells #[.int .i64 n] 3)) (.cells #[.int .i64 long] 3)
  rw [show ((w.alloc (.cells #[.int .i64 k] 48)).alloc (.cells #[.int .i64 n] 3)).heap.size = w.heap.size + 1 + 1 by simp] at h
  exact h)
 rw [← hw1, ← hp]
 clear hw1 hp
 have HCN := Aside0.mk (show Calls Tryd.prog 21 #[.slice A nl c, .func (.func 46) #[] #[.pointer (some ⟨p, 0, none⟩), .pointer (some ⟨p + 1 + 1, 0, none⟩), .pointer (some ⟨p + 1, 0, none⟩)]] w1 _ by
  rw [HN.out]
  exact containsR A c l (inB k long n) 46 _ eg89 w1 (Kd.C_below HC.out HB1.out) (fun W x hW => by
   refine (in_at k long n p (p + 1 + 1) (p + 1) x W ((hW.block _ (blk_lt HK.out)).trans HK.out) ((hW.block _ (blk_lt HL.out)).trans HL.out) ((hW.block _ (blk_lt HN1.out)).trans HN1.out)).mono ?_
   rintro e w' ⟨rfl, hb2⟩
   exact ⟨rfl, hW.trans (hb2.mono hW.size)⟩))
 refine HCN.out.mono ?_
 rintro e w2 ⟨rfl, hb⟩
 have HB2 := Aside0.mk (below_then HB1.out HB1.out.size hb)
 clear hb
 go_wp2_with (fail)
 go_ret
 exact ⟨rfl, HB2.out⟩
theorem floor_f (a b : Int) (h : b ≠ 0) : civil_floor.f a b = some (if Int.tmod a b < 0 then (wrap64 (wrap64 (Int.tdiv a b) - 1), wrap64 (Int.tmod a b + b)) else (wrap64 (Int.tdiv a b), Int.tmod a b)) := by
 unfold civil_floor.f
 rw [if_neg h]
 split <;> rfl
theorem floor_ex (a b : Int) (h : b ≠ 0) : ∃ q, civil_floor.f a b = some q := ⟨_, floor_f a b h⟩
structure Tm where
 y : Int
 m : Int
 d : Int
 wd : Int
 mi : Int
 se : Int
 e : Int
/-- What a second is called. -/
def ofC (s ah : Int) : Tm := match civil_Of.f s ah with
 | some (y, m, d, wd, mi, se, e) => ⟨y, m, d, wd, mi, se, e⟩
 | none => ⟨0, 0, 0, 0, 0, 0, 13⟩
theorem of_f (s ah : Int) : civil_Of.f s ah = some ((ofC s ah).y, (ofC s ah).m, (ofC s ah).d, (ofC s ah).wd, (ofC s ah).mi, (ofC s ah).se, (ofC s ah).e) := by
 have h : ∃ r, civil_Of.f s ah = some r := by
  unfold civil_Of.f civil_clock.f
  by_cases h1 : ah ≥ -1440
  ·rw [if_pos h1]
   simp only [Option.bind_some]
   split
   ·split
    ·exact ⟨_, rfl⟩
    ·split
     ·exact ⟨_, rfl⟩
     ·obtain ⟨q, hq⟩ := floor_ex (wrap64 (s + wrap64 (60 * ah))) 86400 (by omega)
      rw [hq]
      simp only [Option.bind_some, CDate.f]
      obtain ⟨q2, hq2⟩ := floor_ex (wrap64 (q.1 + 4)) 7 (by omega)
      rw [hq2]
      split
      ·exact ⟨_, rfl⟩
      ·exact ⟨_, rfl⟩
   ·exact ⟨_, rfl⟩
  ·rw [if_neg h1]
   exact ⟨_, rfl⟩
 obtain ⟨⟨y, m, d, wd, mi, se, e⟩, hr⟩ := h
 unfold ofC
 rw [hr]
def atL : Int → List (List S37 × Int) → Int → Bool
 | _, [], _ => true
 | k, (l, n) :: r, long => if l.length = 0 then atL (k + 1) r long else if l.any (inB k long n) = true then atL (k + 1) r long else false
def atB (l1 l2 l3 l4 l5 : List S37) (ah s : Int) : Bool :=
 if (ofC s ah).e = 0 then atL 0 [(l1, (ofC s ah).wd), (l2, (ofC s ah).m), (l3, (ofC s ah).d), (l4, (ofC s ah).y), (l5, (ofC s ah).mi)] (longC (ofC s ah).y (ofC s ah).m) else false
set_option maxHeartbeats 8000000 in
set_option maxRecDepth 100000 in
theorem at_any (bv : Nat) (nm : ByteArray) (A1 : Option Addr) (n1 c1 : Nat) (l1 : List S37) (A2 : Option Addr) (n2 c2 : Nat) (l2 : List S37) (A3 : Option Addr) (n3 c3 : Nat) (l3 : List S37) (A4 : Option Addr) (n4 c4 : Nat) (l4 : List S37) (A5 : Option Addr) (n5 c5 : Nat) (l5 : List S37) (ah s : Int) (w : World) (hT : TabS w)
  (hbk : w.heap[bv]? = some (.cells #[.string nm, .slice A1 n1 c1, .slice A2 n2 c2, .slice A3 n3 c3, .slice A4 n4 c4, .slice A5 n5 c5, .int .i64 ah] 24 (0, 0)))
  (h1 : n1 = l1.length ∧ Kd.C k37 w A1 l1.length l1) (h2 : n2 = l2.length ∧ Kd.C k37 w A2 l2.length l2) (h3 : n3 = l3.length ∧ Kd.C k37 w A3 l3.length l3) (h4 : n4 = l4.length ∧ Kd.C k37 w A4 l4.length l4) (h5 : n5 = l5.length ∧ Kd.C k37 w A5 l5.length l5) :
  Calls Tryd.prog 20 #[.pointer (some ⟨bv, 0, none⟩), .int .i64 s] w fun e w' => e = .returned (.bool (atB l1 l2 l3 l4 l5 ah s)) ∧ Below w.heap.size w w' := by
 have hof := of_f s ah
 obtain ⟨r, hr⟩ : ∃ r, r = atB l1 l2 l3 l4 l5 ah s := ⟨_, rfl⟩
 rw [← hr]
 unfold atB at hr
 obtain ⟨⟨y, m, dy, wd, mi, se, e⟩, ht⟩ : ∃ t, t = ofC s ah := ⟨_, rfl⟩
 rw [← ht] at hof hr
 replace hof : civil_Of.f s ah = some (y, m, dy, wd, mi, se, e) := hof
 replace hr : r = if e = 0 then atL 0 [(l1, wd), (l2, m), (l3, dy), (l4, y), (l5, mi)] (longC y m) else false := hr
 have HR0 := Aside0.mk hr
 have HOF := Aside0.mk hof
 have HT := Aside0.mk hT
 have HBV := Aside0.mk hbk
 have C6 := (blk_cell hbk 6).trans rfl
 have hlv := blk_lt hbk
 have H1 := Aside0.mk h1
 have H2 := Aside0.mk h2
 have H3 := Aside0.mk h3
 have H4 := Aside0.mk h4
 have H5 := Aside0.mk h5
 clear hr hof hT hbk h1 h2 h3 h4 h5 ht
 by_cases he : e = 0
 ·subst he
  go_enter Tryd.func20, Tryd.ntmps20
  go_wp2_with (fail)
  refine (civil_Of.calls s ah _ _ _ _ _ _ _ w HT.out HOF.out).mono ?_
  rintro en w1 ⟨rfl, hb⟩
  have HB1 := Aside0.mk hb
  clear hb C6
  go_wp2_with (fail)
  obtain ⟨b5, hb5⟩ : ∃ b5, b5 = w1.heap.size := ⟨_, rfl⟩
  obtain ⟨w2, hw2⟩ : ∃ w2, w2 = w1.alloc (.cells #[.int .i64 y, .int .i64 m, .int .i64 dy, .int .i64 wd, .int .i64 mi, .int .i64 se] 30) := ⟨_, rfl⟩
  have HB52 := Aside0.mk (show w2.heap[b5]? = some (.cells #[.int .i64 y, .int .i64 m, .int .i64 dy, .int .i64 wd, .int .i64 mi, .int .i64 se] 30 (0, 0)) by rw [hw2, hb5]; exact heap_alloc_new w1 _)
  have HB2 := Aside0.mk (show Below w.heap.size w w2 by rw [hw2]; exact below_alloc HB1.out _)
  try rw [← hw2]
  try rw [← hb5]
  clear hw2 hb5
  obtain ⟨wD, hwd⟩ : ∃ wD, wD = w2.drew := ⟨_, rfl⟩
  have HWD := Aside0.mk hwd
  have HBD := Aside0.mk (show Below w.heap.size w wD by rw [hwd]; exact HB2.out.drew)
  have HB5 := Aside0.mk (show wD.heap[b5]? = some (.cells #[.int .i64 y, .int .i64 m, .int .i64 dy, .int .i64 wd, .int .i64 mi, .int .i64 se] 30 (0, 0)) by rw [hwd]; exact HB52.out)
  have HTD := Aside0.mk (HT.out.below HBD.out)
  obtain ⟨lg, hlg⟩ : ∃ lg, lg = longC y m := ⟨_, rfl⟩
  have HLG := Aside0.mk (show CLong.f y m = some lg by rw [hlg]; rfl)
  have HLG2 := Aside0.mk hlg
  clear hwd hlg HB52
  refine Reg.region_pivot2 (Γ := (Nat)) hmix [some 22, some 23, some 24, some 25, some 26, some 27, some 28, some 7, none, some 8] [[], [0], [], [2], [], [4], [3, 5, 1], [], [7, 1, 6, 0, 1, 7], [6, 8, 0, 1, 2, 3, 4, 5, 6, 7, 8]] 8 8 [0, 1, 2, 3, 4, 5, 6, 7] (fun w => Below wD.heap.size wD w) (fun γ d w => Below wD.heap.size wD w ∧ w.heap[γ]? = some (.cells #[.int .i64 wd, .int .i64 m, .int .i64 dy, .int .i64 y, .int .i64 mi] 71 (0, 0)) ∧ wD.heap.size ≤ γ) (fun w w' => Below w.heap.size w w') [(fun v w => v = (.agg #[.int .i64 y, .int .i64 m, .int .i64 dy, .int .i64 wd, .int .i64 mi, .int .i64 se] : Value)), (fun v w => v = (.agg #[.int .i64 wd, .int .i64 m, .int .i64 dy, .int .i64 y, .int .i64 mi] : Value)), (fun v w => v = (.pointer (some ⟨b5, 0, none⟩) : Value)), (fun v w => v = (.int .i64 y : Value)), (fun v w => v = (.pointer (some ⟨b5, 1, none⟩) : Value)), (fun v w => v = (.int .i64 m : Value)), (fun v w => v = (.int .i64 lg : Value)), (fun v w => ∃ b7, v = .pointer (some ⟨b7, 0, none⟩) ∧ w.heap[b7]? = some (.cells #[.int .i64 0, .int .i64 0, .int .i64 0, .int .i64 0, .int .i64 0] 71 (0, 0)) ∧ wD.heap.size ≤ b7), (fun _ _ => False), (fun _ _ => False)] (fun γ => [(fun v => v = (.agg #[.int .i64 y, .int .i64 m, .int .i64 dy, .int .i64 wd, .int .i64 mi, .int .i64 se] : Value)), (fun v => v = (.agg #[.int .i64 wd, .int .i64 m, .int .i64 dy, .int .i64 y, .int .i64 mi] : Value)), (fun v => True), (fun v => True), (fun v => True), (fun v => True), (fun v => v = (.int .i64 lg : Value)), (fun v => v = (.pointer (some ⟨γ, 0, none⟩) : Value)), (fun v => True), (fun v => v = (.int .i64 lg : Value))]) rfl (by kernel_rfl) (by kernel_rfl) (fun _ _ hr => Reg.mono_cons (fun _ h => h) (Reg.mono_cons (fun _ h => h) (Reg.mono_cons (fun _ h => h) (Reg.mono_cons (fun _ h => h) (Reg.mono_cons (fun _ h => h) (Reg.mono_cons (fun _ h => h) (Reg.mono_cons (fun _ h => h) (Reg.mono_cons (fun v ⟨b7, e, h1, h2⟩ => ⟨b7, e, (hr.block _ (blk_lt h1)).trans h1, h2⟩) (Reg.mono_cons (fun _ h => h) (Reg.mono_cons (fun _ h => h) (Reg.mono_nil))))))))))) (by rw [← HWD.out]; exact Below.refl _ _) ?hs ?he
  case hs =>
   intro xs0 xs hx0 hl1_ hl0_
   clear hx0 hl1_
   obtain ⟨x0, xs1, rfl, hl1⟩ := Reg.len_succ hl0_
   obtain ⟨x1, xs2, rfl, hl2⟩ := Reg.len_succ hl1
   obtain ⟨x2, xs3, rfl, hl3⟩ := Reg.len_succ hl2
   obtain ⟨x3, xs4, rfl, hl4⟩ := Reg.len_succ hl3
   obtain ⟨x4, xs5, rfl, hl5⟩ := Reg.len_succ hl4
   obtain ⟨x5, xs6, rfl, hl6⟩ := Reg.len_succ hl5
   obtain ⟨x6, xs7, rfl, hl7⟩ := Reg.len_succ hl6
   obtain ⟨x7, xs8, rfl, hl8⟩ := Reg.len_succ hl7
   obtain ⟨x8, xs9, rfl, hl9⟩ := Reg.len_succ hl8
   obtain ⟨x9, xs10, rfl, hl10⟩ := Reg.len_succ hl9
   obtain rfl := List.eq_nil_of_length_eq_zero hl10
   clear hl0_ hl1 hl2 hl3 hl4 hl5 hl6 hl7 hl8 hl9 hl10
   simp only [Reg.putL, Act.put, List.setIfInBounds_toArray, List.set_cons_succ, List.set_cons_zero]
   refine ⟨fun wr hG hf _ hlate_ => ?_, ?_⟩
   ·skip
    clear hlate_
    replace hG : Below wD.heap.size wD wr := hG
    clear hf
    refine .inl ⟨by rfl, ?_⟩
    simp only [Reg.ung]
    have hbkr := (hG.block _ (blk_lt HB5.out)).trans HB5.out; have cz0 := (blk_cell hbkr 0).trans rfl; have cz1 := (blk_cell hbkr 1).trans rfl; have cz2 := (blk_cell hbkr 2).trans rfl; have cz3 := (blk_cell hbkr 3).trans rfl; have cz4 := (blk_cell hbkr 4).trans rfl; have cz5 := (blk_cell hbkr 5).trans rfl; clear hbkr
    go_wp2
    exact ⟨_, rfl, hG, (fun w => Below.refl w.heap.size w) _, rfl⟩
   refine ⟨fun wr hG hf _ hlate_ => ?_, ?_⟩
   ·skip
    clear hlate_
    replace hG : Below wD.heap.size wD wr := hG
    obtain ⟨hq0, -⟩ := hf
    obtain rfl : x0 = (.agg #[.int .i64 y, .int .i64 m, .int .i64 dy, .int .i64 wd, .int .i64 mi, .int .i64 se] : Value) := hq0
    refine .inl ⟨by rfl, ?_⟩
    simp only [Reg.ung]
    have hbkr := (hG.block _ (blk_lt HB5.out)).trans HB5.out; have cz0 := (blk_cell hbkr 0).trans rfl; have cz1 := (blk_cell hbkr 1).trans rfl; have cz2 := (blk_cell hbkr 2).trans rfl; have cz3 := (blk_cell hbkr 3).trans rfl; have cz4 := (blk_cell hbkr 4).trans rfl; have cz5 := (blk_cell hbkr 5).trans rfl; clear hbkr
    go_wp2_with ((go_at_call 31; refine (numbers_any y m dy wd mi se _).mono ?_; rintro e w5 ⟨rfl, hb⟩)); exact ⟨_, rfl, below_then hG hG.size hb, hb, rfl⟩
   refine ⟨fun wr hG hf _ hlate_ => ?_, ?_⟩
   ·skip
    clear hlate_
    replace hG : Below wD.heap.size wD wr := hG
    clear hf
    refine .inl ⟨by rfl, ?_⟩
    simp only [Reg.ung]
    have hbkr := (hG.block _ (blk_lt HB5.out)).trans HB5.out; have cz0 := (blk_cell hbkr 0).trans rfl; have cz1 := (blk_cell hbkr 1).trans rfl; have cz2 := (blk_cell hbkr 2).trans rfl; have cz3 := (blk_cell hbkr 3).trans rfl; have cz4 := (blk_cell hbkr 4).trans rfl; have cz5 := (blk_cell hbkr 5).trans rfl; clear hbkr
    go_wp2
    exact ⟨_, rfl, hG, (fun w => Below.refl w.heap.size w) _, rfl⟩
   refine ⟨fun wr hG hf _ hlate_ => ?_, ?_⟩
   ·skip
    clear hlate_
    replace hG : Below wD.heap.size wD wr := hG
    obtain ⟨hq0, -⟩ := hf
    obtain rfl : x2 = (.pointer (some ⟨b5, 0, none⟩) : Value) := hq0
    refine .inl ⟨by rfl, ?_⟩
    simp only [Reg.ung]
    have hbkr := (hG.block _ (blk_lt HB5.out)).trans HB5.out; have cz0 := (blk_cell hbkr 0).trans rfl; have cz1 := (blk_cell hbkr 1).trans rfl; have cz2 := (blk_cell hbkr 2).trans rfl; have cz3 := (blk_cell hbkr 3).trans rfl; have cz4 := (blk_cell hbkr 4).trans rfl; have cz5 := (blk_cell hbkr 5).trans rfl; clear hbkr
    go_wp2
    exact ⟨_, rfl, hG, (fun w => Below.refl w.heap.size w) _, rfl⟩
   refine ⟨fun wr hG hf _ hlate_ => ?_, ?_⟩
   ·skip
    clear hlate_
    replace hG : Below wD.heap.size wD wr := hG
    clear hf
    refine .inl ⟨by rfl, ?_⟩
    simp only [Reg.ung]
    have hbkr := (hG.block _ (blk_lt HB5.out)).trans HB5.out; have cz0 := (blk_cell hbkr 0).trans rfl; have cz1 := (blk_cell hbkr 1).trans rfl; have cz2 := (blk_cell hbkr 2).trans rfl; have cz3 := (blk_cell hbkr 3).trans rfl; have cz4 := (blk_cell hbkr 4).trans rfl; have cz5 := (blk_cell hbkr 5).trans rfl; clear hbkr
    go_wp2
    exact ⟨_, rfl, hG, (fun w => Below.refl w.heap.size w) _, rfl⟩
   refine ⟨fun wr hG hf _ hlate_ => ?_, ?_⟩
   ·skip
    clear hlate_
    replace hG : Below wD.heap.size wD wr := hG
    obtain ⟨hq0, -⟩ := hf
    obtain rfl : x4 = (.pointer (some ⟨b5, 1, none⟩) : Value) := hq0
    refine .inl ⟨by rfl, ?_⟩
    simp only [Reg.ung]
    have hbkr := (hG.block _ (blk_lt HB5.out)).trans HB5.out; have cz0 := (blk_cell hbkr 0).trans rfl; have cz1 := (blk_cell hbkr 1).trans rfl; have cz2 := (blk_cell hbkr 2).trans rfl; have cz3 := (blk_cell hbkr 3).trans rfl; have cz4 := (blk_cell hbkr 4).trans rfl; have cz5 := (blk_cell hbkr 5).trans rfl; clear hbkr
    go_wp2
    exact ⟨_, rfl, hG, (fun w => Below.refl w.heap.size w) _, rfl⟩
   refine ⟨fun wr hG hf _ hlate_ => ?_, ?_⟩
   ·skip
    clear hlate_
    replace hG : Below wD.heap.size wD wr := hG
    obtain ⟨hq0, hq1, -, -⟩ := hf
    obtain rfl : x3 = (.int .i64 y : Value) := hq0
    obtain rfl : x5 = (.int .i64 m : Value) := hq1
    refine .inl ⟨by rfl, ?_⟩
    simp only [Reg.ung]
    have hbkr := (hG.block _ (blk_lt HB5.out)).trans HB5.out; have cz0 := (blk_cell hbkr 0).trans rfl; have cz1 := (blk_cell hbkr 1).trans rfl; have cz2 := (blk_cell hbkr 2).trans rfl; have cz3 := (blk_cell hbkr 3).trans rfl; have cz4 := (blk_cell hbkr 4).trans rfl; have cz5 := (blk_cell hbkr 5).trans rfl; clear hbkr
    go_wp2_with ((go_at_call 32; refine (CLong.calls y m lg _ (HTD.out.below hG) HLG.out).mono ?_; rintro e w5 ⟨rfl, hb⟩)); exact ⟨_, rfl, below_then hG hG.size hb, hb, rfl⟩
   refine ⟨fun wr hG hf _ hlate_ => ?_, ?_⟩
   ·skip
    clear hlate_
    replace hG : Below wD.heap.size wD wr := hG
    clear hf
    refine .inl ⟨by rfl, ?_⟩
    simp only [Reg.ung]
    have hbkr := (hG.block _ (blk_lt HB5.out)).trans HB5.out; have cz0 := (blk_cell hbkr 0).trans rfl; have cz1 := (blk_cell hbkr 1).trans rfl; have cz2 := (blk_cell hbkr 2).trans rfl; have cz3 := (blk_cell hbkr 3).trans rfl; have cz4 := (blk_cell hbkr 4).trans rfl; have cz5 := (blk_cell hbkr 5).trans rfl; clear hbkr
    go_wp2; exact ⟨_, rfl, below_alloc hG _, below_alloc (Below.refl _ _) _, _, rfl, heap_alloc_new wr _, hG.size⟩
   refine ⟨fun wr hG hf _ hlate_ => ?_, ?_⟩
   ·skip
    clear hlate_
    replace hG : Below wD.heap.size wD wr := hG
    obtain ⟨hq0, hq1, hq2, hq3, -, -, -⟩ := hf
    replace hq0 : ∃ b7, x7 = .pointer (some ⟨b7, 0, none⟩) ∧ wr.heap[b7]? = some (.cells #[.int .i64 0, .int .i64 0, .int .i64 0, .int .i64 0, .int .i64 0] 71 (0, 0)) ∧ wD.heap.size ≤ b7 := hq0
    obtain rfl : x1 = (.agg #[.int .i64 wd, .int .i64 m, .int .i64 dy, .int .i64 y, .int .i64 mi] : Value) := hq1
    obtain rfl : x6 = (.int .i64 lg : Value) := hq2
    obtain rfl : x0 = (.agg #[.int .i64 y, .int .i64 m, .int .i64 dy, .int .i64 wd, .int .i64 mi, .int .i64 se] : Value) := hq3
    refine .inl ⟨by rfl, ?_⟩
    simp only [Reg.ung]
    have hbkr := (hG.block _ (blk_lt HB5.out)).trans HB5.out; have cz0 := (blk_cell hbkr 0).trans rfl; have cz1 := (blk_cell hbkr 1).trans rfl; have cz2 := (blk_cell hbkr 2).trans rfl; have cz3 := (blk_cell hbkr 3).trans rfl; have cz4 := (blk_cell hbkr 4).trans rfl; have cz5 := (blk_cell hbkr 5).trans rfl; clear hbkr
    obtain ⟨b7, rfl, hb7, hn7⟩ := hq0; have c0_ := (blk_cell hb7 0).trans rfl; have c1_ := (blk_cell hb7 1).trans rfl; have c2_ := (blk_cell hb7 2).trans rfl; have c3_ := (blk_cell hb7 3).trans rfl; have c4_ := (blk_cell hb7 4).trans rfl; have z0 := blk_frozen hb7 0; have z1 := blk_frozen hb7 1; have z2 := blk_frozen hb7 2; have z3 := blk_frozen hb7 3; have z4 := blk_frozen hb7 4; have HB7 := Aside0.mk hb7; have HG := Aside0.mk hG; have HN7 := Aside0.mk hn7; clear hb7 hG hn7; go_wp2; exact ⟨undef, rfl, b7, ⟨((((((G6.refl _ b7).set 0 _).set 1 _).set 2 _).set 3 _).set 4 _).toBelow HG.out HN7.out, blk_put (blk_put (blk_put (blk_put (blk_put HB7.out 0 (.int .i64 wd) rfl) 1 (.int .i64 m) rfl) 2 (.int .i64 dy) rfl) 3 (.int .i64 y) rfl) 4 (.int .i64 mi) rfl, HN7.out⟩, trivial, rfl, rfl, trivial, trivial, trivial, trivial, rfl, rfl, trivial⟩
   refine ⟨fun γ d wr hG hf _ => ?_, ?_⟩
   ·skip
    obtain ⟨b7, rfl⟩ : ∃ z, z = γ := ⟨_, rfl⟩
    replace hG : Below wD.heap.size wD wr ∧ wr.heap[b7]? = some (.cells #[.int .i64 wd, .int .i64 m, .int .i64 dy, .int .i64 y, .int .i64 mi] 71 (0, 0)) ∧ wD.heap.size ≤ b7 := hG
    obtain ⟨hq0, -, -, -, -, -, -, -, -, -, -, -⟩ := hf
    obtain rfl : x6 = (.int .i64 lg : Value) := hq0
    refine .inl ⟨by rfl, ?_⟩
    simp only [Reg.ung]
    go_wp2
    exact ⟨_, rfl, by simpa using hG, rfl⟩
   exact trivial
  case he =>
   intro xs hl0_ γ wr hG hf
   obtain ⟨x0, xs1, rfl, hl1⟩ := Reg.len_succ hl0_
   obtain ⟨x1, xs2, rfl, hl2⟩ := Reg.len_succ hl1
   obtain ⟨x2, xs3, rfl, hl3⟩ := Reg.len_succ hl2
   obtain ⟨x3, xs4, rfl, hl4⟩ := Reg.len_succ hl3
   obtain ⟨x4, xs5, rfl, hl5⟩ := Reg.len_succ hl4
   obtain ⟨x5, xs6, rfl, hl6⟩ := Reg.len_succ hl5
   obtain ⟨x6, xs7, rfl, hl7⟩ := Reg.len_succ hl6
   obtain ⟨x7, xs8, rfl, hl8⟩ := Reg.len_succ hl7
   obtain ⟨x8, xs9, rfl, hl9⟩ := Reg.len_succ hl8
   obtain ⟨x9, xs10, rfl, hl10⟩ := Reg.len_succ hl9
   obtain rfl := List.eq_nil_of_length_eq_zero hl10
   clear hl0_ hl1 hl2 hl3 hl4 hl5 hl6 hl7 hl8 hl9 hl10
   obtain ⟨b7, rfl⟩ : ∃ z, z = γ := ⟨_, rfl⟩
   replace hG : Below wD.heap.size wD wr ∧ wr.heap[b7]? = some (.cells #[.int .i64 wd, .int .i64 m, .int .i64 dy, .int .i64 y, .int .i64 mi] 71 (0, 0)) ∧ wD.heap.size ≤ b7 := hG
   obtain ⟨hq0, hq1, hq2, hq3, hq4, hq5, hq6, hq7, hq8, hq9, -⟩ := hf
   obtain rfl : x0 = (.agg #[.int .i64 y, .int .i64 m, .int .i64 dy, .int .i64 wd, .int .i64 mi, .int .i64 se] : Value) := hq0
   obtain rfl : x1 = (.agg #[.int .i64 wd, .int .i64 m, .int .i64 dy, .int .i64 y, .int .i64 mi] : Value) := hq1
   replace hq2 : True := hq2
   replace hq3 : True := hq3
   replace hq4 : True := hq4
   replace hq5 : True := hq5
   obtain rfl : x6 = (.int .i64 lg : Value) := hq6
   obtain rfl : x7 = (.pointer (some ⟨b7, 0, none⟩) : Value) := hq7
   replace hq8 : True := hq8
   obtain rfl : x9 = (.int .i64 lg : Value) := hq9
   simp only [Reg.putL, Act.put, List.setIfInBounds_toArray, List.set_cons_succ, List.set_cons_zero]
   obtain ⟨hBf, hb7, hn7⟩ := hG
   have HB3 := Aside0.mk (below_then HBD.out HBD.out.size hBf)
   have HB7 := Aside0.mk hb7
   have HR := Aside0.mk (show atL 0 [(l1, wd), (l2, m), (l3, dy), (l4, y), (l5, mi)] lg = r by rw [HR0.out, HLG2.out, if_pos (by first | rfl | trivial)])
   clear hBf hb7 hn7 HR0 HLG HLG2
   go_wp2_with (fail)
   refine (of_any bv wr).mono ?_
   rintro en w3 ⟨rfl, hb⟩
   have HB4 := Aside0.mk (below_then HB3.out HB3.out.size hb)
   have HB74 := Aside0.mk ((hb.block _ (blk_lt HB7.out)).trans HB7.out)
   clear hb
   unfold parts
   go_wp2_with (fail)
   go_loopg [31] 6 (fun kq v31 wr => ∃ (j : Nat), v31 = .int .i64 (j : Int) ∧ Aside0 (j ≤ 5 ∧ j + kq = 6) ∧ Aside0 (Below w3.heap.size w3 wr) ∧ Aside0 (atL (j : Int) ([(l1, wd), (l2, m), (l3, dy), (l4, y), (l5, mi)].drop j) lg = r))
   case atStart => exact ⟨0, rfl, ⟨by omega⟩, ⟨Below.refl _ _⟩, HR⟩
   case round =>
    clear HR
    obtain ⟨j, rfl, HJ, HB, HR⟩ := hrel
    obtain ⟨hj0, hjk⟩ := HJ.out
    have hj : j = 0 ∨ j = 1 ∨ j = 2 ∨ j = 3 ∨ j = 4 ∨ j = 5 := by omega
    rcases hj with rfl | rfl | rfl | rfl | rfl | rfl
    ·cases gk with
     | zero => exact absurd hjk (by omega)
     | succ k1 =>
      have hr : (if l1.length = 0 then atL (1 : Nat) ([(l1, wd), (l2, m), (l3, dy), (l4, y), (l5, mi)].drop 1) lg else if l1.any (inB 0 lg wd) = true then atL (1 : Nat) ([(l1, wd), (l2, m), (l3, dy), (l4, y), (l5, mi)].drop 1) lg else false) = r := HR.out
      rw [← H1.out.1] at hr
      obtain ⟨wD, hwd⟩ : ∃ wD, wD = wr.drew := ⟨_, rfl⟩
      have HWD := Aside0.mk hwd
      have HBQ := Aside0.mk (show Below w3.heap.size w3 wD by rw [hwd]; exact HB.out.drew)
      have HBW := Aside0.mk (below_then HB4.out HB4.out.size HBQ.out)
      have CV := (blk_cell ((HBW.out.block _ hlv).trans HBV.out) 1).trans rfl
      have C7 := (blk_cell ((HBQ.out.block _ (blk_lt HB74.out)).trans HB74.out) 0).trans rfl
      clear hwd HR
      by_cases h0 : n1 = 0
      ·rw [if_pos h0] at hr
       have HR := Aside0.mk hr
       have HH := H1
       clear hr H1
       subst h0
       obtain ⟨wd_, hwd_⟩ : ∃ wd_, wd_ = wD := ⟨_, rfl⟩
       go_wp2_with (fail)
       refine Reg.region_list hmix [some 35, some 36, some 37, some 38, some 39, some 40, some 41, some 42, some 43, some 44, some 45, some 46, some 47, some 48, some 49, some 50, some 51] [[], [0], [1], [2], [3], [4], [5], [5], [7, 5], [8, 5], [5], [10, 5], [11, 5], [5], [6, 9, 12, 13, 5, 5], [14, 5], [5, 15]] (fun w => Aside0 (w = wD)) (fun w w' => Aside0 (w' = w)) [(fun v w => v = (.pointer (some ⟨bv, 1, none⟩) : Value)), (fun v w => v = (.pointer (some ⟨bv, 1, none⟩) : Value)), (fun v w => v = (.slice A1 0 c1 : Value)), (fun v w => v = (.int .i64 0 : Value)), (fun v w => v = (.bool false : Value)), (fun v w => v = (.bool false : Value)), (fun v w => v = (undef : Value)), (fun v w => v = (undef : Value)), (fun v w => v = (undef : Value)), (fun v w => v = (undef : Value)), (fun v w => v = (undef : Value)), (fun v w => v = (undef : Value)), (fun v w => v = (undef : Value)), (fun v w => v = (undef : Value)), (fun v w => v = (undef : Value)), (fun v w => v = (undef : Value)), (fun v w => v = (.bool false : Value))] rfl (by kernel_rfl) (by kernel_rfl) (fun _ => ⟨rfl⟩) (fun _ _ hr => Reg.mono_cons (fun _ h => h) (Reg.mono_cons (fun _ h => h) (Reg.mono_cons (fun _ h => h) (Reg.mono_cons (fun _ h => h) (Reg.mono_cons (fun _ h => h) (Reg.mono_cons (fun _ h => h) (Reg.mono_cons (fun _ h => h) (Reg.mono_cons (fun _ h => h) (Reg.mono_cons (fun _ h => h) (Reg.mono_cons (fun _ h => h) (Reg.mono_cons (fun _ h => h) (Reg.mono_cons (fun _ h => h) (Reg.mono_cons (fun _ h => h) (Reg.mono_cons (fun _ h => h) (Reg.mono_cons (fun _ h => h) (Reg.mono_cons (fun _ h => h) (Reg.mono_cons (fun _ h => h) (Reg.mono_nil)))))))))))))))))) (⟨HWD.out.symm⟩) ?hs ?he
       case hs =>
        intro xs0 xs hx0 hl0_ wr hG
        clear hx0
        obtain ⟨x0, xs1, rfl, hl1⟩ := Reg.len_succ hl0_
        obtain ⟨x1, xs2, rfl, hl2⟩ := Reg.len_succ hl1
        obtain ⟨x2, xs3, rfl, hl3⟩ := Reg.len_succ hl2
        obtain ⟨x3, xs4, rfl, hl4⟩ := Reg.len_succ hl3
        obtain ⟨x4, xs5, rfl, hl5⟩ := Reg.len_succ hl4
        obtain ⟨x5, xs6, rfl, hl6⟩ := Reg.len_succ hl5
        obtain ⟨x6, xs7, rfl, hl7⟩ := Reg.len_succ hl6
        obtain ⟨x7, xs8, rfl, hl8⟩ := Reg.len_succ hl7
        obtain ⟨x8, xs9, rfl, hl9⟩ := Reg.len_succ hl8
        obtain ⟨x9, xs10, rfl, hl10⟩ := Reg.len_succ hl9
        obtain ⟨x10, xs11, rfl, hl11⟩ := Reg.len_succ hl10
        obtain ⟨x11, xs12, rfl, hl12⟩ := Reg.len_succ hl11
        obtain ⟨x12, xs13, rfl, hl13⟩ := Reg.len_succ hl12
        obtain ⟨x13, xs14, rfl, hl14⟩ := Reg.len_succ hl13
        obtain ⟨x14, xs15, rfl, hl15⟩ := Reg.len_succ hl14
        obtain ⟨x15, xs16, rfl, hl16⟩ := Reg.len_succ hl15
        obtain ⟨x16, xs17, rfl, hl17⟩ := Reg.len_succ hl16
        obtain rfl := List.eq_nil_of_length_eq_zero hl17
        clear hl0_ hl1 hl2 hl3 hl4 hl5 hl6 hl7 hl8 hl9 hl10 hl11 hl12 hl13 hl14 hl15 hl16 hl17
        simp only [Reg.putL, Act.put, List.setIfInBounds_toArray, List.set_cons_succ, List.set_cons_zero]
        obtain rfl := hG.out
        refine ⟨fun hf _ => ?_, ?_⟩
        ·clear hf
         refine .inl ⟨by rfl, ?_⟩
         simp only [Reg.ung]
         go_wp2
         first | exact ⟨_, rfl, hG, ⟨rfl⟩, rfl⟩ | exact ⟨rfl, hG, ⟨rfl⟩, rfl⟩ | exact ⟨rfl, hG, ⟨rfl⟩⟩ | exact ⟨rfl, ⟨rfl⟩⟩
        refine ⟨fun hf _ => ?_, ?_⟩
        ·obtain ⟨hq0, -⟩ := hf
         obtain rfl : x0 = _ := hq0
         refine .inl ⟨by rfl, ?_⟩
         simp only [Reg.ung]
         go_wp2
         first | exact ⟨_, rfl, hG, ⟨rfl⟩, rfl⟩ | exact ⟨rfl, hG, ⟨rfl⟩, rfl⟩ | exact ⟨rfl, hG, ⟨rfl⟩⟩ | exact ⟨rfl, ⟨rfl⟩⟩
        refine ⟨fun hf _ => ?_, ?_⟩
        ·obtain ⟨hq0, -⟩ := hf
         obtain rfl : x1 = _ := hq0
         refine .inl ⟨by rfl, ?_⟩
         simp only [Reg.ung]
         go_wp2
         first | exact ⟨_, rfl, hG, ⟨rfl⟩, rfl⟩ | exact ⟨rfl, hG, ⟨rfl⟩, rfl⟩ | exact ⟨rfl, hG, ⟨rfl⟩⟩ | exact ⟨rfl, ⟨rfl⟩⟩
        refine ⟨fun hf _ => ?_, ?_⟩
        ·obtain ⟨hq0, -⟩ := hf
         obtain rfl : x2 = _ := hq0
         refine .inl ⟨by rfl, ?_⟩
         simp only [Reg.ung]
         go_wp2
         first | exact ⟨_, rfl, hG, ⟨rfl⟩, rfl⟩ | exact ⟨rfl, hG, ⟨rfl⟩, rfl⟩ | exact ⟨rfl, hG, ⟨rfl⟩⟩ | exact ⟨rfl, ⟨rfl⟩⟩
        refine ⟨fun hf _ => ?_, ?_⟩
        ·obtain ⟨hq0, -⟩ := hf
         obtain rfl : x3 = _ := hq0
         refine .inl ⟨by rfl, ?_⟩
         simp only [Reg.ung]
         go_wp2
         first | exact ⟨_, rfl, hG, ⟨rfl⟩, rfl⟩ | exact ⟨rfl, hG, ⟨rfl⟩, rfl⟩ | exact ⟨rfl, hG, ⟨rfl⟩⟩ | exact ⟨rfl, ⟨rfl⟩⟩
        refine ⟨fun hf _ => ?_, ?_⟩
        ·obtain ⟨hq0, -⟩ := hf
         obtain rfl : x4 = _ := hq0
         refine .inl ⟨by rfl, ?_⟩
         simp only [Reg.ung]
         go_wp2
         first | exact ⟨_, rfl, hG, ⟨rfl⟩, rfl⟩ | exact ⟨rfl, hG, ⟨rfl⟩, rfl⟩ | exact ⟨rfl, hG, ⟨rfl⟩⟩ | exact ⟨rfl, ⟨rfl⟩⟩
        refine ⟨fun hf _ => ?_, ?_⟩
        ·obtain ⟨hq0, -⟩ := hf
         obtain rfl : x5 = _ := hq0
         exact .inr ⟨by rfl, rfl⟩
        refine ⟨fun hf _ => ?_, ?_⟩
        ·obtain ⟨hq0, -⟩ := hf
         obtain rfl : x5 = _ := hq0
         exact .inr ⟨by rfl, rfl⟩
        refine ⟨fun hf _ => ?_, ?_⟩
        ·obtain ⟨hq0, hq1, -⟩ := hf
         obtain rfl : x7 = _ := hq0
         obtain rfl : x5 = _ := hq1
         exact .inr ⟨by rfl, rfl⟩
        refine ⟨fun hf _ => ?_, ?_⟩
        ·obtain ⟨hq0, hq1, -⟩ := hf
         obtain rfl : x8 = _ := hq0
         obtain rfl : x5 = _ := hq1
         exact .inr ⟨by rfl, rfl⟩
        refine ⟨fun hf _ => ?_, ?_⟩
        ·obtain ⟨hq0, -⟩ := hf
         obtain rfl : x5 = _ := hq0
         exact .inr ⟨by rfl, rfl⟩
        refine ⟨fun hf _ => ?_, ?_⟩
        ·obtain ⟨hq0, hq1, -⟩ := hf
         obtain rfl : x10 = _ := hq0
         obtain rfl : x5 = _ := hq1
         exact .inr ⟨by rfl, rfl⟩
        refine ⟨fun hf _ => ?_, ?_⟩
        ·obtain ⟨hq0, hq1, -⟩ := hf
         obtain rfl : x11 = _ := hq0
         obtain rfl : x5 = _ := hq1
         exact .inr ⟨by rfl, rfl⟩
        refine ⟨fun hf _ => ?_, ?_⟩
        ·obtain ⟨hq0, -⟩ := hf
         obtain rfl : x5 = _ := hq0
         exact .inr ⟨by rfl, rfl⟩
        refine ⟨fun hf _ => ?_, ?_⟩
        ·obtain ⟨hq0, hq1, hq2, hq3, hq4, -, -⟩ := hf
         obtain rfl : x6 = _ := hq0
         obtain rfl : x9 = _ := hq1
         obtain rfl : x12 = _ := hq2
         obtain rfl : x13 = _ := hq3
         obtain rfl : x5 = _ := hq4
         exact .inr ⟨by rfl, rfl⟩
        refine ⟨fun hf _ => ?_, ?_⟩
        ·obtain ⟨hq0, hq1, -⟩ := hf
         obtain rfl : x14 = _ := hq0
         obtain rfl : x5 = _ := hq1
         exact .inr ⟨by rfl, rfl⟩
        refine ⟨fun hf _ => ?_, ?_⟩
        ·obtain ⟨hq0, hq1, -⟩ := hf
         obtain rfl : x5 = _ := hq0
         obtain rfl : x15 = _ := hq1
         refine .inl ⟨by rfl, ?_⟩
         simp only [Reg.ung]
         go_wp2
         first | exact ⟨_, rfl, hG, ⟨rfl⟩, rfl⟩ | exact ⟨rfl, hG, ⟨rfl⟩, rfl⟩ | exact ⟨rfl, hG, ⟨rfl⟩⟩ | exact ⟨rfl, ⟨rfl⟩⟩
        exact trivial
       case he =>
        intro xs hl0_ wr hG hf
        obtain ⟨x0, xs1, rfl, hl1⟩ := Reg.len_succ hl0_
        obtain ⟨x1, xs2, rfl, hl2⟩ := Reg.len_succ hl1
        obtain ⟨x2, xs3, rfl, hl3⟩ := Reg.len_succ hl2
        obtain ⟨x3, xs4, rfl, hl4⟩ := Reg.len_succ hl3
        obtain ⟨x4, xs5, rfl, hl5⟩ := Reg.len_succ hl4
        obtain ⟨x5, xs6, rfl, hl6⟩ := Reg.len_succ hl5
        obtain ⟨x6, xs7, rfl, hl7⟩ := Reg.len_succ hl6
        obtain ⟨x7, xs8, rfl, hl8⟩ := Reg.len_succ hl7
        obtain ⟨x8, xs9, rfl, hl9⟩ := Reg.len_succ hl8
        obtain ⟨x9, xs10, rfl, hl10⟩ := Reg.len_succ hl9
        obtain ⟨x10, xs11, rfl, hl11⟩ := Reg.len_succ hl10
        obtain ⟨x11, xs12, rfl, hl12⟩ := Reg.len_succ hl11
        obtain ⟨x12, xs13, rfl, hl13⟩ := Reg.len_succ hl12
        obtain ⟨x13, xs14, rfl, hl14⟩ := Reg.len_succ hl13
        obtain ⟨x14, xs15, rfl, hl15⟩ := Reg.len_succ hl14
        obtain ⟨x15, xs16, rfl, hl16⟩ := Reg.len_succ hl15
        obtain ⟨x16, xs17, rfl, hl17⟩ := Reg.len_succ hl16
        obtain rfl := List.eq_nil_of_length_eq_zero hl17
        clear hl0_ hl1 hl2 hl3 hl4 hl5 hl6 hl7 hl8 hl9 hl10 hl11 hl12 hl13 hl14 hl15 hl16 hl17
        obtain ⟨hq0, hq1, hq2, hq3, hq4, hq5, hq6, hq7, hq8, hq9, hq10, hq11, hq12, hq13, hq14, hq15, hq16, -⟩ := hf
        obtain rfl : x0 = _ := hq0
        obtain rfl : x1 = _ := hq1
        obtain rfl : x2 = _ := hq2
        obtain rfl : x3 = _ := hq3
        obtain rfl : x4 = _ := hq4
        obtain rfl : x5 = _ := hq5
        obtain rfl : x6 = _ := hq6
        obtain rfl : x7 = _ := hq7
        obtain rfl : x8 = _ := hq8
        obtain rfl : x9 = _ := hq9
        obtain rfl : x10 = _ := hq10
        obtain rfl : x11 = _ := hq11
        obtain rfl : x12 = _ := hq12
        obtain rfl : x13 = _ := hq13
        obtain rfl : x14 = _ := hq14
        obtain rfl : x15 = _ := hq15
        obtain rfl : x16 = _ := hq16
        simp only [Reg.putL, Act.put, List.setIfInBounds_toArray, List.set_cons_succ, List.set_cons_zero]
        obtain rfl := hG.out
        clear CV C7
        go_wp2_with (fail)
        go_roundg k1
        case measure => omega
        case rel => exact ⟨1, by first | rfl | simp, ⟨by omega⟩, HBQ, HR⟩
      ·rw [if_neg h0] at hr
       have hp : 0 < n1 := by omega
       have d1 : decide ((n1 : Int) > 0) = true := decide_eq_true (by omega)
       have d2 : decide ((0 : Int) < (n1 : Int)) = true := d1
       have d3 : decide (0 < n1) = true := decide_eq_true hp
       have HIN := Aside0.mk (show ∀ W, Below wD.heap.size wD W → Calls Tryd.prog 33 #[.int .i64 0, .slice A1 n1 c1, .int .i64 wd, .int .i64 lg] W _ from fun W hW => in_any A1 c1 n1 l1 0 wd lg W H1.out.1 (Kd.C_below (Kd.C_below H1.out.2 HBW.out) hW))
       obtain ⟨b, hb⟩ : ∃ b, b = l1.any (inB 0 lg wd) := ⟨_, rfl⟩
       rw [← hb] at hr HIN
       clear hb
       go_wp2_with (fail)
       refine Reg.region_list hmix [some 35, some 36, some 37, some 38, some 39, some 40, some 41, some 42, some 43, some 44, some 45, some 46, some 47, some 48, some 49, some 50, some 51] [[], [0], [1], [2], [3], [4], [5], [5], [7, 5], [8, 5], [5], [10, 5], [11, 5], [5], [6, 9, 12, 13, 5, 5], [14, 5], [5, 15]] (fun w => Below wD.heap.size wD w) (fun w w' => Below w.heap.size w w') [(fun v w => v = (.pointer (some ⟨bv, 1, none⟩) : Value)), (fun v w => v = (.pointer (some ⟨bv, 1, none⟩) : Value)), (fun v w => v = (.slice A1 n1 c1 : Value)), (fun v w => v = (.int .i64 (n1 : Int) : Value)), (fun v w => v = (.bool true : Value)), (fun v w => v = (.bool true : Value)), (fun v w => v = (.int .i64 0 : Value)), (fun v w => v = (.pointer (some ⟨bv, 1, none⟩) : Value)), (fun v w => v = (.pointer (some ⟨bv, 1, none⟩) : Value)), (fun v w => v = (.slice A1 n1 c1 : Value)), (fun v w => v = (.int .i64 0 : Value)), (fun v w => v = (.pointer (some ⟨b7, 0, none⟩) : Value)), (fun v w => v = (.int .i64 wd : Value)), (fun v w => v = (.int .i64 lg : Value)), (fun v w => v = (.bool b : Value)), (fun v w => v = (.bool (!b) : Value)), (fun v w => v = (.bool (!b) : Value))] rfl (by kernel_rfl) (by kernel_rfl) (fun w => Below.refl w.heap.size w) (fun _ _ hr => Reg.mono_cons (fun _ h => h) (Reg.mono_cons (fun _ h => h) (Reg.mono_cons (fun _ h => h) (Reg.mono_cons (fun _ h => h) (Reg.mono_cons (fun _ h => h) (Reg.mono_cons (fun _ h => h) (Reg.mono_cons (fun _ h => h) (Reg.mono_cons (fun _ h => h) (Reg.mono_cons (fun _ h => h) (Reg.mono_cons (fun _ h => h) (Reg.mono_cons (fun _ h => h) (Reg.mono_cons (fun _ h => h) (Reg.mono_cons (fun _ h => h) (Reg.mono_cons (fun _ h => h) (Reg.mono_cons (fun _ h => h) (Reg.mono_cons (fun _ h => h) (Reg.mono_cons (fun _ h => h) (Reg.mono_nil)))))))))))))))))) (by rw [← HWD.out]; exact Below.refl _ _) ?hs ?he
       case hs =>
        intro xs0 xs hx0 hl0_ wr hG
        clear hx0
        obtain ⟨x0, xs1, rfl, hl1⟩ := Reg.len_succ hl0_
        obtain ⟨x1, xs2, rfl, hl2⟩ := Reg.len_succ hl1
        obtain ⟨x2, xs3, rfl, hl3⟩ := Reg.len_succ hl2
        obtain ⟨x3, xs4, rfl, hl4⟩ := Reg.len_succ hl3
        obtain ⟨x4, xs5, rfl, hl5⟩ := Reg.len_succ hl4
        obtain ⟨x5, xs6, rfl, hl6⟩ := Reg.len_succ hl5
        obtain ⟨x6, xs7, rfl, hl7⟩ := Reg.len_succ hl6
        obtain ⟨x7, xs8, rfl, hl8⟩ := Reg.len_succ hl7
        obtain ⟨x8, xs9, rfl, hl9⟩ := Reg.len_succ hl8
        obtain ⟨x9, xs10, rfl, hl10⟩ := Reg.len_succ hl9
        obtain ⟨x10, xs11, rfl, hl11⟩ := Reg.len_succ hl10
        obtain ⟨x11, xs12, rfl, hl12⟩ := Reg.len_succ hl11
        obtain ⟨x12, xs13, rfl, hl13⟩ := Reg.len_succ hl12
        obtain ⟨x13, xs14, rfl, hl14⟩ := Reg.len_succ hl13
        obtain ⟨x14, xs15, rfl, hl15⟩ := Reg.len_succ hl14
        obtain ⟨x15, xs16, rfl, hl16⟩ := Reg.len_succ hl15
        obtain ⟨x16, xs17, rfl, hl17⟩ := Reg.len_succ hl16
        obtain rfl := List.eq_nil_of_length_eq_zero hl17
        clear hl0_ hl1 hl2 hl3 hl4 hl5 hl6 hl7 hl8 hl9 hl10 hl11 hl12 hl13 hl14 hl15 hl16 hl17
        simp only [Reg.putL, Act.put, List.setIfInBounds_toArray, List.set_cons_succ, List.set_cons_zero]
        have cv := (hG.cell (World.block_lt_of_cell? wD _ CV)).trans CV; have c7 := (hG.cell (World.block_lt_of_cell? wD _ C7)).trans C7
        refine ⟨fun hf _ => ?_, ?_⟩
        ·clear hf
         refine .inl ⟨by rfl, ?_⟩
         simp only [Reg.ung]
         go_wp2
         exact ⟨_, rfl, hG, (fun w => Below.refl w.heap.size w) _, rfl⟩
        refine ⟨fun hf _ => ?_, ?_⟩
        ·obtain ⟨hq0, -⟩ := hf
         obtain rfl : x0 = _ := hq0
         refine .inl ⟨by rfl, ?_⟩
         simp only [Reg.ung]
         go_wp2
         exact ⟨_, rfl, hG, (fun w => Below.refl w.heap.size w) _, rfl⟩
        refine ⟨fun hf _ => ?_, ?_⟩
        ·obtain ⟨hq0, -⟩ := hf
         obtain rfl : x1 = _ := hq0
         refine .inl ⟨by rfl, ?_⟩
         simp only [Reg.ung]
         go_wp2
         exact ⟨_, rfl, hG, (fun w => Below.refl w.heap.size w) _, rfl⟩
        refine ⟨fun hf _ => ?_, ?_⟩
        ·obtain ⟨hq0, -⟩ := hf
         obtain rfl : x2 = _ := hq0
         refine .inl ⟨by rfl, ?_⟩
         simp only [Reg.ung]
         go_wp2
         exact ⟨_, rfl, hG, (fun w => Below.refl w.heap.size w) _, rfl⟩
        refine ⟨fun hf _ => ?_, ?_⟩
        ·obtain ⟨hq0, -⟩ := hf
         obtain rfl : x3 = _ := hq0
         refine .inl ⟨by rfl, ?_⟩
         simp only [Reg.ung]
         go_wp2
         exact ⟨_, rfl, hG, (fun w => Below.refl w.heap.size w) _, rfl⟩
        refine ⟨fun hf _ => ?_, ?_⟩
        ·obtain ⟨hq0, -⟩ := hf
         obtain rfl : x4 = _ := hq0
         refine .inl ⟨by rfl, ?_⟩
         simp only [Reg.ung]
         go_wp2
         exact ⟨_, rfl, hG, (fun w => Below.refl w.heap.size w) _, rfl⟩
        refine ⟨fun hf _ => ?_, ?_⟩
        ·obtain ⟨hq0, -⟩ := hf
         obtain rfl : x5 = _ := hq0
         refine .inl ⟨by rfl, ?_⟩
         simp only [Reg.ung]
         go_wp2
         exact ⟨_, rfl, hG, (fun w => Below.refl w.heap.size w) _, rfl⟩
        refine ⟨fun hf _ => ?_, ?_⟩
        ·obtain ⟨hq0, -⟩ := hf
         obtain rfl : x5 = _ := hq0
         refine .inl ⟨by rfl, ?_⟩
         simp only [Reg.ung]
         go_wp2
         exact ⟨_, rfl, hG, (fun w => Below.refl w.heap.size w) _, rfl⟩
        refine ⟨fun hf _ => ?_, ?_⟩
        ·obtain ⟨hq0, hq1, -⟩ := hf
         obtain rfl : x7 = _ := hq0
         obtain rfl : x5 = _ := hq1
         refine .inl ⟨by rfl, ?_⟩
         simp only [Reg.ung]
         go_wp2
         exact ⟨_, rfl, hG, (fun w => Below.refl w.heap.size w) _, rfl⟩
        refine ⟨fun hf _ => ?_, ?_⟩
        ·obtain ⟨hq0, hq1, -⟩ := hf
         obtain rfl : x8 = _ := hq0
         obtain rfl : x5 = _ := hq1
         refine .inl ⟨by rfl, ?_⟩
         simp only [Reg.ung]
         go_wp2
         exact ⟨_, rfl, hG, (fun w => Below.refl w.heap.size w) _, rfl⟩
        refine ⟨fun hf _ => ?_, ?_⟩
        ·obtain ⟨hq0, -⟩ := hf
         obtain rfl : x5 = _ := hq0
         refine .inl ⟨by rfl, ?_⟩
         simp only [Reg.ung]
         go_wp2
         exact ⟨_, rfl, hG, (fun w => Below.refl w.heap.size w) _, rfl⟩
        refine ⟨fun hf _ => ?_, ?_⟩
        ·obtain ⟨hq0, hq1, -⟩ := hf
         obtain rfl : x10 = _ := hq0
         obtain rfl : x5 = _ := hq1
         refine .inl ⟨by rfl, ?_⟩
         simp only [Reg.ung]
         go_wp2
         exact ⟨_, rfl, hG, (fun w => Below.refl w.heap.size w) _, rfl⟩
        refine ⟨fun hf _ => ?_, ?_⟩
        ·obtain ⟨hq0, hq1, -⟩ := hf
         obtain rfl : x11 = _ := hq0
         obtain rfl : x5 = _ := hq1
         refine .inl ⟨by rfl, ?_⟩
         simp only [Reg.ung]
         go_wp2
         exact ⟨_, rfl, hG, (fun w => Below.refl w.heap.size w) _, rfl⟩
        refine ⟨fun hf _ => ?_, ?_⟩
        ·obtain ⟨hq0, -⟩ := hf
         obtain rfl : x5 = _ := hq0
         refine .inl ⟨by rfl, ?_⟩
         simp only [Reg.ung]
         go_wp2
         exact ⟨_, rfl, hG, (fun w => Below.refl w.heap.size w) _, rfl⟩
        refine ⟨fun hf _ => ?_, ?_⟩
        ·obtain ⟨hq0, hq1, hq2, hq3, hq4, -, -⟩ := hf
         obtain rfl : x6 = _ := hq0
         obtain rfl : x9 = _ := hq1
         obtain rfl : x12 = _ := hq2
         obtain rfl : x13 = _ := hq3
         obtain rfl : x5 = _ := hq4
         refine .inl ⟨by rfl, ?_⟩
         simp only [Reg.ung]
         go_wp2_with ((go_at_call 33; refine (HIN.out _ hG).mono ?_; rintro e w5 ⟨rfl, hb⟩)); exact ⟨_, rfl, below_then hG hG.size hb, hb, rfl⟩
        refine ⟨fun hf _ => ?_, ?_⟩
        ·obtain ⟨hq0, hq1, -⟩ := hf
         obtain rfl : x14 = _ := hq0
         obtain rfl : x5 = _ := hq1
         refine .inl ⟨by rfl, ?_⟩
         simp only [Reg.ung]
         go_wp2
         exact ⟨_, rfl, hG, (fun w => Below.refl w.heap.size w) _, rfl⟩
        refine ⟨fun hf _ => ?_, ?_⟩
        ·obtain ⟨hq0, hq1, -⟩ := hf
         obtain rfl : x5 = _ := hq0
         obtain rfl : x15 = _ := hq1
         refine .inl ⟨by rfl, ?_⟩
         simp only [Reg.ung]
         go_wp2
         exact ⟨_, rfl, hG, (fun w => Below.refl w.heap.size w) _, rfl⟩
        exact trivial
       case he =>
        intro xs hl0_ wr hG hf
        obtain ⟨x0, xs1, rfl, hl1⟩ := Reg.len_succ hl0_
        obtain ⟨x1, xs2, rfl, hl2⟩ := Reg.len_succ hl1
        obtain ⟨x2, xs3, rfl, hl3⟩ := Reg.len_succ hl2
        obtain ⟨x3, xs4, rfl, hl4⟩ := Reg.len_succ hl3
        obtain ⟨x4, xs5, rfl, hl5⟩ := Reg.len_succ hl4
        obtain ⟨x5, xs6, rfl, hl6⟩ := Reg.len_succ hl5
        obtain ⟨x6, xs7, rfl, hl7⟩ := Reg.len_succ hl6
        obtain ⟨x7, xs8, rfl, hl8⟩ := Reg.len_succ hl7
        obtain ⟨x8, xs9, rfl, hl9⟩ := Reg.len_succ hl8
        obtain ⟨x9, xs10, rfl, hl10⟩ := Reg.len_succ hl9
        obtain ⟨x10, xs11, rfl, hl11⟩ := Reg.len_succ hl10
        obtain ⟨x11, xs12, rfl, hl12⟩ := Reg.len_succ hl11
        obtain ⟨x12, xs13, rfl, hl13⟩ := Reg.len_succ hl12
        obtain ⟨x13, xs14, rfl, hl14⟩ := Reg.len_succ hl13
        obtain ⟨x14, xs15, rfl, hl15⟩ := Reg.len_succ hl14
        obtain ⟨x15, xs16, rfl, hl16⟩ := Reg.len_succ hl15
        obtain ⟨x16, xs17, rfl, hl17⟩ := Reg.len_succ hl16
        obtain rfl := List.eq_nil_of_length_eq_zero hl17
        clear hl0_ hl1 hl2 hl3 hl4 hl5 hl6 hl7 hl8 hl9 hl10 hl11 hl12 hl13 hl14 hl15 hl16 hl17
        obtain ⟨hq0, hq1, hq2, hq3, hq4, hq5, hq6, hq7, hq8, hq9, hq10, hq11, hq12, hq13, hq14, hq15, hq16, -⟩ := hf
        obtain rfl : x0 = _ := hq0
        obtain rfl : x1 = _ := hq1
        obtain rfl : x2 = _ := hq2
        obtain rfl : x3 = _ := hq3
        obtain rfl : x4 = _ := hq4
        obtain rfl : x5 = _ := hq5
        obtain rfl : x6 = _ := hq6
        obtain rfl : x7 = _ := hq7
        obtain rfl : x8 = _ := hq8
        obtain rfl : x9 = _ := hq9
        obtain rfl : x10 = _ := hq10
        obtain rfl : x11 = _ := hq11
        obtain rfl : x12 = _ := hq12
        obtain rfl : x13 = _ := hq13
        obtain rfl : x14 = _ := hq14
        obtain rfl : x15 = _ := hq15
        obtain rfl : x16 = _ := hq16
        simp only [Reg.putL, Act.put, List.setIfInBounds_toArray, List.set_cons_succ, List.set_cons_zero]
        have HE := Aside0.mk (below_then HBQ.out HBQ.out.size hG)
        clear CV C7 hG HIN
        cases b with
        | true =>
         rw [if_pos rfl] at hr
         have HR := Aside0.mk hr
         clear hr
         go_wp2_with (fail)
         go_roundg k1
         case measure => omega
         case rel => exact ⟨1, by first | rfl | simp, ⟨by omega⟩, HE, HR⟩
        | false =>
         rw [if_neg (fun h => by cases h)] at hr
         subst hr
         go_wp2_with (fail)
         go_ret
         exact ⟨rfl, below_then HB4.out HB4.out.size HE.out⟩
    ·cases gk with
     | zero => exact absurd hjk (by omega)
     | succ k1 =>
      have hr : (if l2.length = 0 then atL (2 : Nat) ([(l1, wd), (l2, m), (l3, dy), (l4, y), (l5, mi)].drop 2) lg else if l2.any (inB 1 lg m) = true then atL (2 : Nat) ([(l1, wd), (l2, m), (l3, dy), (l4, y), (l5, mi)].drop 2) lg else false) = r := HR.out
      rw [← H2.out.1] at hr
      obtain ⟨wD, hwd⟩ : ∃ wD, wD = wr.drew := ⟨_, rfl⟩
      have HWD := Aside0.mk hwd
      have HBQ := Aside0.mk (show Below w3.heap.size w3 wD by rw [hwd]; exact HB.out.drew)
      have HBW := Aside0.mk (below_then HB4.out HB4.out.size HBQ.out)
      have CV := (blk_cell ((HBW.out.block _ hlv).trans HBV.out) 2).trans rfl
      have C7 := (blk_cell ((HBQ.out.block _ (blk_lt HB74.out)).trans HB74.out) 1).trans rfl
      clear hwd HR
      by_cases h0 : n2 = 0
      ·rw [if_pos h0] at hr
       have HR := Aside0.mk hr
       have HH := H2
       clear hr H2
       subst h0
       obtain ⟨wd_, hwd_⟩ : ∃ wd_, wd_ = wD := ⟨_, rfl⟩
       go_wp2_with (fail)
       refine Reg.region_list hmix [some 35, some 36, some 37, some 38, some 39, some 40, some 41, some 42, some 43, some 44, some 45, some 46, some 47, some 48, some 49, some 50, some 51] [[], [0], [1], [2], [3], [4], [5], [5], [7, 5], [8, 5], [5], [10, 5], [11, 5], [5], [6, 9, 12, 13, 5, 5], [14, 5], [5, 15]] (fun w => Aside0 (w = wD)) (fun w w' => Aside0 (w' = w)) [(fun v w => v = (.pointer (some ⟨bv, 2, none⟩) : Value)), (fun v w => v = (.pointer (some ⟨bv, 2, none⟩) : Value)), (fun v w => v = (.slice A2 0 c2 : Value)), (fun v w => v = (.int .i64 0 : Value)), (fun v w => v = (.bool false : Value)), (fun v w => v = (.bool false : Value)), (fun v w => v = (undef : Value)), (fun v w => v = (undef : Value)), (fun v w => v = (undef : Value)), (fun v w => v = (undef : Value)), (fun v w => v = (undef : Value)), (fun v w => v = (undef : Value)), (fun v w => v = (undef : Value)), (fun v w => v = (undef : Value)), (fun v w => v = (undef : Value)), (fun v w => v = (undef : Value)), (fun v w => v = (.bool false : Value))] rfl (by kernel_rfl) (by kernel_rfl) (fun _ => ⟨rfl⟩) (fun _ _ hr => Reg.mono_cons (fun _ h => h) (Reg.mono_cons (fun _ h => h) (Reg.mono_cons (fun _ h => h) (Reg.mono_cons (fun _ h => h) (Reg.mono_cons (fun _ h => h) (Reg.mono_cons (fun _ h => h) (Reg.mono_cons (fun _ h => h) (Reg.mono_cons (fun _ h => h) (Reg.mono_cons (fun _ h => h) (Reg.mono_cons (fun _ h => h) (Reg.mono_cons (fun _ h => h) (Reg.mono_cons (fun _ h => h) (Reg.mono_cons (fun _ h => h) (Reg.mono_cons (fun _ h => h) (Reg.mono_cons (fun _ h => h) (Reg.mono_cons (fun _ h => h) (Reg.mono_cons (fun _ h => h) (Reg.mono_nil)))))))))))))))))) (⟨HWD.out.symm⟩) ?hs ?he
       case hs =>
        intro xs0 xs hx0 hl0_ wr hG
        clear hx0
        obtain ⟨x0, xs1, rfl, hl1⟩ := Reg.len_succ hl0_
        obtain ⟨x1, xs2, rfl, hl2⟩ := Reg.len_succ hl1
        obtain ⟨x2, xs3, rfl, hl3⟩ := Reg.len_succ hl2
        obtain ⟨x3, xs4, rfl, hl4⟩ := Reg.len_succ hl3
        obtain ⟨x4, xs5, rfl, hl5⟩ := Reg.len_succ hl4
        obtain ⟨x5, xs6, rfl, hl6⟩ := Reg.len_succ hl5
        obtain ⟨x6, xs7, rfl, hl7⟩ := Reg.len_succ hl6
        obtain ⟨x7, xs8, rfl, hl8⟩ := Reg.len_succ hl7
        obtain ⟨x8, xs9, rfl, hl9⟩ := Reg.len_succ hl8
        obtain ⟨x9, xs10, rfl, hl10⟩ := Reg.len_succ hl9
        obtain ⟨x10, xs11, rfl, hl11⟩ := Reg.len_succ hl10
        obtain ⟨x11, xs12, rfl, hl12⟩ := Reg.len_succ hl11
        obtain ⟨x12, xs13, rfl, hl13⟩ := Reg.len_succ hl12
        obtain ⟨x13, xs14, rfl, hl14⟩ := Reg.len_succ hl13
        obtain ⟨x14, xs15, rfl, hl15⟩ := Reg.len_succ hl14
        obtain ⟨x15, xs16, rfl, hl16⟩ := Reg.len_succ hl15
        obtain ⟨x16, xs17, rfl, hl17⟩ := Reg.len_succ hl16
        obtain rfl := List.eq_nil_of_length_eq_zero hl17
        clear hl0_ hl1 hl2 hl3 hl4 hl5 hl6 hl7 hl8 hl9 hl10 hl11 hl12 hl13 hl14 hl15 hl16 hl17
        simp only [Reg.putL, Act.put, List.setIfInBounds_toArray, List.set_cons_succ, List.set_cons_zero]
        obtain rfl := hG.out
        refine ⟨fun hf _ => ?_, ?_⟩
        ·clear hf
         refine .inl ⟨by rfl, ?_⟩
         simp only [Reg.ung]
         go_wp2
         first | exact ⟨_, rfl, hG, ⟨rfl⟩, rfl⟩ | exact ⟨rfl, hG, ⟨rfl⟩, rfl⟩ | exact ⟨rfl, hG, ⟨rfl⟩⟩ | exact ⟨rfl, ⟨rfl⟩⟩
        refine ⟨fun hf _ => ?_, ?_⟩
        ·obtain ⟨hq0, -⟩ := hf
         obtain rfl : x0 = _ := hq0
         refine .inl ⟨by rfl, ?_⟩
         simp only [Reg.ung]
         go_wp2
         first | exact ⟨_, rfl, hG, ⟨rfl⟩, rfl⟩ | exact ⟨rfl, hG, ⟨rfl⟩, rfl⟩ | exact ⟨rfl, hG, ⟨rfl⟩⟩ | exact ⟨rfl, ⟨rfl⟩⟩
        refine ⟨fun hf _ => ?_, ?_⟩
        ·obtain ⟨hq0, -⟩ := hf
         obtain rfl : x1 = _ := hq0
         refine .inl ⟨by rfl, ?_⟩
         simp only [Reg.ung]
         go_wp2
         first | exact ⟨_, rfl, hG, ⟨rfl⟩, rfl⟩ | exact ⟨rfl, hG, ⟨rfl⟩, rfl⟩ | exact ⟨rfl, hG, ⟨rfl⟩⟩ | exact ⟨rfl, ⟨rfl⟩⟩
        refine ⟨fun hf _ => ?_, ?_⟩
        ·obtain ⟨hq0, -⟩ := hf
         obtain rfl : x2 = _ := hq0
         refine .inl ⟨by rfl, ?_⟩
         simp only [Reg.ung]
         go_wp2
         first | exact ⟨_, rfl, hG, ⟨rfl⟩, rfl⟩ | exact ⟨rfl, hG, ⟨rfl⟩, rfl⟩ | exact ⟨rfl, hG, ⟨rfl⟩⟩ | exact ⟨rfl, ⟨rfl⟩⟩
        refine ⟨fun hf _ => ?_, ?_⟩
        ·obtain ⟨hq0, -⟩ := hf
         obtain rfl : x3 = _ := hq0
         refine .inl ⟨by rfl, ?_⟩
         simp only [Reg.ung]
         go_wp2
         first | exact ⟨_, rfl, hG, ⟨rfl⟩, rfl⟩ | exact ⟨rfl, hG, ⟨rfl⟩, rfl⟩ | exact ⟨rfl, hG, ⟨rfl⟩⟩ | exact ⟨rfl, ⟨rfl⟩⟩
        refine ⟨fun hf _ => ?_, ?_⟩
        ·obtain ⟨hq0, -⟩ := hf
         obtain rfl : x4 = _ := hq0
         refine .inl ⟨by rfl, ?_⟩
         simp only [Reg.ung]
         go_wp2
         first | exact ⟨_, rfl, hG, ⟨rfl⟩, rfl⟩ | exact ⟨rfl, hG, ⟨rfl⟩, rfl⟩ | exact ⟨rfl, hG, ⟨rfl⟩⟩ | exact ⟨rfl, ⟨rfl⟩⟩
        refine ⟨fun hf _ => ?_, ?_⟩
        ·obtain ⟨hq0, -⟩ := hf
         obtain rfl : x5 = _ := hq0
         exact .inr ⟨by rfl, rfl⟩
        refine ⟨fun hf _ => ?_, ?_⟩
        ·obtain ⟨hq0, -⟩ := hf
         obtain rfl : x5 = _ := hq0
         exact .inr ⟨by rfl, rfl⟩
        refine ⟨fun hf _ => ?_, ?_⟩
        ·obtain ⟨hq0, hq1, -⟩ := hf
         obtain rfl : x7 = _ := hq0
         obtain rfl : x5 = _ := hq1
         exact .inr ⟨by rfl, rfl⟩
        refine ⟨fun hf _ => ?_, ?_⟩
        ·obtain ⟨hq0, hq1, -⟩ := hf
         obtain rfl : x8 = _ := hq0
         obtain rfl : x5 = _ := hq1
         exact .inr ⟨by rfl, rfl⟩
        refine ⟨fun hf _ => ?_, ?_⟩
        ·obtain ⟨hq0, -⟩ := hf
         obtain rfl : x5 = _ := hq0
         exact .inr ⟨by rfl, rfl⟩
        refine ⟨fun hf _ => ?_, ?_⟩
        ·obtain ⟨hq0, hq1, -⟩ := hf
         obtain rfl : x10 = _ := hq0
         obtain rfl : x5 = _ := hq1
         exact .inr ⟨by rfl, rfl⟩
        refine ⟨fun hf _ => ?_, ?_⟩
        ·obtain ⟨hq0, hq1, -⟩ := hf
         obtain rfl : x11 = _ := hq0
         obtain rfl : x5 = _ := hq1
         exact .inr ⟨by rfl, rfl⟩
        refine ⟨fun hf _ => ?_, ?_⟩
        ·obtain ⟨hq0, -⟩ := hf
         obtain rfl : x5 = _ := hq0
         exact .inr ⟨by rfl, rfl⟩
        refine ⟨fun hf _ => ?_, ?_⟩
        ·obtain ⟨hq0, hq1, hq2, hq3, hq4, -, -⟩ := hf
         obtain rfl : x6 = _ := hq0
         obtain rfl : x9 = _ := hq1
         obtain rfl : x12 = _ := hq2
         obtain rfl : x13 = _ := hq3
         obtain rfl : x5 = _ := hq4
         exact .inr ⟨by rfl, rfl⟩
        refine ⟨fun hf _ => ?_, ?_⟩
        ·obtain ⟨hq0, hq1, -⟩ := hf
         obtain rfl : x14 = _ := hq0
         obtain rfl : x5 = _ := hq1
         exact .inr ⟨by rfl, rfl⟩
        refine ⟨fun hf _ => ?_, ?_⟩
        ·obtain ⟨hq0, hq1, -⟩ := hf
         obtain rfl : x5 = _ := hq0
         obtain rfl : x15 = _ := hq1
         refine .inl ⟨by rfl, ?_⟩
         simp only [Reg.ung]
         go_wp2
         first | exact ⟨_, rfl, hG, ⟨rfl⟩, rfl⟩ | exact ⟨rfl, hG, ⟨rfl⟩, rfl⟩ | exact ⟨rfl, hG, ⟨rfl⟩⟩ | exact ⟨rfl, ⟨rfl⟩⟩
        exact trivial
       case he =>
        intro xs hl0_ wr hG hf
        obtain ⟨x0, xs1, rfl, hl1⟩ := Reg.len_succ hl0_
        obtain ⟨x1, xs2, rfl, hl2⟩ := Reg.len_succ hl1
        obtain ⟨x2, xs3, rfl, hl3⟩ := Reg.len_succ hl2
        obtain ⟨x3, xs4, rfl, hl4⟩ := Reg.len_succ hl3
        obtain ⟨x4, xs5, rfl, hl5⟩ := Reg.len_succ hl4
        obtain ⟨x5, xs6, rfl, hl6⟩ := Reg.len_succ hl5
        obtain ⟨x6, xs7, rfl, hl7⟩ := Reg.len_succ hl6
        obtain ⟨x7, xs8, rfl, hl8⟩ := Reg.len_succ hl7
        obtain ⟨x8, xs9, rfl, hl9⟩ := Reg.len_succ hl8
        obtain ⟨x9, xs10, rfl, hl10⟩ := Reg.len_succ hl9
        obtain ⟨x10, xs11, rfl, hl11⟩ := Reg.len_succ hl10
        obtain ⟨x11, xs12, rfl, hl12⟩ := Reg.len_succ hl11
        obtain ⟨x12, xs13, rfl, hl13⟩ := Reg.len_succ hl12
        obtain ⟨x13, xs14, rfl, hl14⟩ := Reg.len_succ hl13
        obtain ⟨x14, xs15, rfl, hl15⟩ := Reg.len_succ hl14
        obtain ⟨x15, xs16, rfl, hl16⟩ := Reg.len_succ hl15
        obtain ⟨x16, xs17, rfl, hl17⟩ := Reg.len_succ hl16
        obtain rfl := List.eq_nil_of_length_eq_zero hl17
        clear hl0_ hl1 hl2 hl3 hl4 hl5 hl6 hl7 hl8 hl9 hl10 hl11 hl12 hl13 hl14 hl15 hl16 hl17
        obtain ⟨hq0, hq1, hq2, hq3, hq4, hq5, hq6, hq7, hq8, hq9, hq10, hq11, hq12, hq13, hq14, hq15, hq16, -⟩ := hf
        obtain rfl : x0 = _ := hq0
        obtain rfl : x1 = _ := hq1
        obtain rfl : x2 = _ := hq2
        obtain rfl : x3 = _ := hq3
        obtain rfl : x4 = _ := hq4
        obtain rfl : x5 = _ := hq5
        obtain rfl : x6 = _ := hq6
        obtain rfl : x7 = _ := hq7
        obtain rfl : x8 = _ := hq8
        obtain rfl : x9 = _ := hq9
        obtain rfl : x10 = _ := hq10
        obtain rfl : x11 = _ := hq11
        obtain rfl : x12 = _ := hq12
        obtain rfl : x13 = _ := hq13
        obtain rfl : x14 = _ := hq14
        obtain rfl : x15 = _ := hq15
        obtain rfl : x16 = _ := hq16
        simp only [Reg.putL, Act.put, List.setIfInBounds_toArray, List.set_cons_succ, List.set_cons_zero]
        obtain rfl := hG.out
        clear CV C7
        go_wp2_with (fail)
        go_roundg k1
        case measure => omega
        case rel => exact ⟨2, by first | rfl | simp, ⟨by omega⟩, HBQ, HR⟩
      ·rw [if_neg h0] at hr
       have hp : 0 < n2 := by omega
       have d1 : decide ((n2 : Int) > 0) = true := decide_eq_true (by omega)
       have d2 : decide ((0 : Int) < (n2 : Int)) = true := d1
       have d3 : decide (0 < n2) = true := decide_eq_true hp
       have HIN := Aside0.mk (show ∀ W, Below wD.heap.size wD W → Calls Tryd.prog 33 #[.int .i64 1, .slice A2 n2 c2, .int .i64 m, .int .i64 lg] W _ from fun W hW => in_any A2 c2 n2 l2 1 m lg W H2.out.1 (Kd.C_below (Kd.C_below H2.out.2 HBW.out) hW))
       obtain ⟨b, hb⟩ : ∃ b, b = l2.any (inB 1 lg m) := ⟨_, rfl⟩
       rw [← hb] at hr HIN
       clear hb
       go_wp2_with (fail)
       refine Reg.region_list hmix [some 35, some 36, some 37, some 38, some 39, some 40, some 41, some 42, some 43, some 44, some 45, some 46, some 47, some 48, some 49, some 50, some 51] [[], [0], [1], [2], [3], [4], [5], [5], [7, 5], [8, 5], [5], [10, 5], [11, 5], [5], [6, 9, 12, 13, 5, 5], [14, 5], [5, 15]] (fun w => Below wD.heap.size wD w) (fun w w' => Below w.heap.size w w') [(fun v w => v = (.pointer (some ⟨bv, 2, none⟩) : Value)), (fun v w => v = (.pointer (some ⟨bv, 2, none⟩) : Value)), (fun v w => v = (.slice A2 n2 c2 : Value)), (fun v w => v = (.int .i64 (n2 : Int) : Value)), (fun v w => v = (.bool true : Value)), (fun v w => v = (.bool true : Value)), (fun v w => v = (.int .i64 1 : Value)), (fun v w => v = (.pointer (some ⟨bv, 2, none⟩) : Value)), (fun v w => v = (.pointer (some ⟨bv, 2, none⟩) : Value)), (fun v w => v = (.slice A2 n2 c2 : Value)), (fun v w => v = (.int .i64 1 : Value)), (fun v w => v = (.pointer (some ⟨b7, 1, none⟩) : Value)), (fun v w => v = (.int .i64 m : Value)), (fun v w => v = (.int .i64 lg : Value)), (fun v w => v = (.bool b : Value)), (fun v w => v = (.bool (!b) : Value)), (fun v w => v = (.bool (!b) : Value))] rfl (by kernel_rfl) (by kernel_rfl) (fun w => Below.refl w.heap.size w) (fun _ _ hr => Reg.mono_cons (fun _ h => h) (Reg.mono_cons (fun _ h => h) (Reg.mono_cons (fun _ h => h) (Reg.mono_cons (fun _ h => h) (Reg.mono_cons (fun _ h => h) (Reg.mono_cons (fun _ h => h) (Reg.mono_cons (fun _ h => h) (Reg.mono_cons (fun _ h => h) (Reg.mono_cons (fun _ h => h) (Reg.mono_cons (fun _ h => h) (Reg.mono_cons (fun _ h => h) (Reg.mono_cons (fun _ h => h) (Reg.mono_cons (fun _ h => h) (Reg.mono_cons (fun _ h => h) (Reg.mono_cons (fun _ h => h) (Reg.mono_cons (fun _ h => h) (Reg.mono_cons (fun _ h => h) (Reg.mono_nil)))))))))))))))))) (by rw [← HWD.out]; exact Below.refl _ _) ?hs ?he
       case hs =>
        intro xs0 xs hx0 hl0_ wr hG
        clear hx0
        obtain ⟨x0, xs1, rfl, hl1⟩ := Reg.len_succ hl0_
        obtain ⟨x1, xs2, rfl, hl2⟩ := Reg.len_succ hl1
        obtain ⟨x2, xs3, rfl, hl3⟩ := Reg.len_succ hl2
        obtain ⟨x3, xs4, rfl, hl4⟩ := Reg.len_succ hl3
        obtain ⟨x4, xs5, rfl, hl5⟩ := Reg.len_succ hl4
        obtain ⟨x5, xs6, rfl, hl6⟩ := Reg.len_succ hl5
        obtain ⟨x6, xs7, rfl, hl7⟩ := Reg.len_succ hl6
        obtain ⟨x7, xs8, rfl, hl8⟩ := Reg.len_succ hl7
        obtain ⟨x8, xs9, rfl, hl9⟩ := Reg.len_succ hl8
        obtain ⟨x9, xs10, rfl, hl10⟩ := Reg.len_succ hl9
        obtain ⟨x10, xs11, rfl, hl11⟩ := Reg.len_succ hl10
        obtain ⟨x11, xs12, rfl, hl12⟩ := Reg.len_succ hl11
        obtain ⟨x12, xs13, rfl, hl13⟩ := Reg.len_succ hl12
        obtain ⟨x13, xs14, rfl, hl14⟩ := Reg.len_succ hl13
        obtain ⟨x14, xs15, rfl, hl15⟩ := Reg.len_succ hl14
        obtain ⟨x15, xs16, rfl, hl16⟩ := Reg.len_succ hl15
        obtain ⟨x16, xs17, rfl, hl17⟩ := Reg.len_succ hl16
        obtain rfl := List.eq_nil_of_length_eq_zero hl17
        clear hl0_ hl1 hl2 hl3 hl4 hl5 hl6 hl7 hl8 hl9 hl10 hl11 hl12 hl13 hl14 hl15 hl16 hl17
        simp only [Reg.putL, Act.put, List.setIfInBounds_toArray, List.set_cons_succ, List.set_cons_zero]
        have cv := (hG.cell (World.block_lt_of_cell? wD _ CV)).trans CV; have c7 := (hG.cell (World.block_lt_of_cell? wD _ C7)).trans C7
        refine ⟨fun hf _ => ?_, ?_⟩
        ·clear hf
         refine .inl ⟨by rfl, ?_⟩
         simp only [Reg.ung]
         go_wp2
         exact ⟨_, rfl, hG, (fun w => Below.refl w.heap.size w) _, rfl⟩
        refine ⟨fun hf _ => ?_, ?_⟩
        ·obtain ⟨hq0, -⟩ := hf
         obtain rfl : x0 = _ := hq0
         refine .inl ⟨by rfl, ?_⟩
         simp only [Reg.ung]
         go_wp2
         exact ⟨_, rfl, hG, (fun w => Below.refl w.heap.size w) _, rfl⟩
        refine ⟨fun hf _ => ?_, ?_⟩
        ·obtain ⟨hq0, -⟩ := hf
         obtain rfl : x1 = _ := hq0
         refine .inl ⟨by rfl, ?_⟩
         simp only [Reg.ung]
         go_wp2
         exact ⟨_, rfl, hG, (fun w => Below.refl w.heap.size w) _, rfl⟩
        refine ⟨fun hf _ => ?_, ?_⟩
        ·obtain ⟨hq0, -⟩ := hf
         obtain rfl : x2 = _ := hq0
         refine .inl ⟨by rfl, ?_⟩
         simp only [Reg.ung]
         go_wp2
         exact ⟨_, rfl, hG, (fun w => Below.refl w.heap.size w) _, rfl⟩
        refine ⟨fun hf _ => ?_, ?_⟩
        ·obtain ⟨hq0, -⟩ := hf
         obtain rfl : x3 = _ := hq0
         refine .inl ⟨by rfl, ?_⟩
         simp only [Reg.ung]
         go_wp2
         exact ⟨_, rfl, hG, (fun w => Below.refl w.heap.size w) _, rfl⟩
        refine ⟨fun hf _ => ?_, ?_⟩
        ·obtain ⟨hq0, -⟩ := hf
         obtain rfl : x4 = _ := hq0
         refine .inl ⟨by rfl, ?_⟩
         simp only [Reg.ung]
         go_wp2
         exact ⟨_, rfl, hG, (fun w => Below.refl w.heap.size w) _, rfl⟩
        refine ⟨fun hf _ => ?_, ?_⟩
        ·obtain ⟨hq0, -⟩ := hf
         obtain rfl : x5 = _ := hq0
         refine .inl ⟨by rfl, ?_⟩
         simp only [Reg.ung]
         go_wp2
         exact ⟨_, rfl, hG, (fun w => Below.refl w.heap.size w) _, rfl⟩
        refine ⟨fun hf _ => ?_, ?_⟩
        ·obtain ⟨hq0, -⟩ := hf
         obtain rfl : x5 = _ := hq0
         refine .inl ⟨by rfl, ?_⟩
         simp only [Reg.ung]
         go_wp2
         exact ⟨_, rfl, hG, (fun w => Below.refl w.heap.size w) _, rfl⟩
        refine ⟨fun hf _ => ?_, ?_⟩
        ·obtain ⟨hq0, hq1, -⟩ := hf
         obtain rfl : x7 = _ := hq0
         obtain rfl : x5 = _ := hq1
         refine .inl ⟨by rfl, ?_⟩
         simp only [Reg.ung]
         go_wp2
         exact ⟨_, rfl, hG, (fun w => Below.refl w.heap.size w) _, rfl⟩
        refine ⟨fun hf _ => ?_, ?_⟩
        ·obtain ⟨hq0, hq1, -⟩ := hf
         obtain rfl : x8 = _ := hq0
         obtain rfl : x5 = _ := hq1
         refine .inl ⟨by rfl, ?_⟩
         simp only [Reg.ung]
         go_wp2
         exact ⟨_, rfl, hG, (fun w => Below.refl w.heap.size w) _, rfl⟩
        refine ⟨fun hf _ => ?_, ?_⟩
        ·obtain ⟨hq0, -⟩ := hf
         obtain rfl : x5 = _ := hq0
         refine .inl ⟨by rfl, ?_⟩
         simp only [Reg.ung]
         go_wp2
         exact ⟨_, rfl, hG, (fun w => Below.refl w.heap.size w) _, rfl⟩
        refine ⟨fun hf _ => ?_, ?_⟩
        ·obtain ⟨hq0, hq1, -⟩ := hf
         obtain rfl : x10 = _ := hq0
         obtain rfl : x5 = _ := hq1
         refine .inl ⟨by rfl, ?_⟩
         simp only [Reg.ung]
         go_wp2
         exact ⟨_, rfl, hG, (fun w => Below.refl w.heap.size w) _, rfl⟩
        refine ⟨fun hf _ => ?_, ?_⟩
        ·obtain ⟨hq0, hq1, -⟩ := hf
         obtain rfl : x11 = _ := hq0
         obtain rfl : x5 = _ := hq1
         refine .inl ⟨by rfl, ?_⟩
         simp only [Reg.ung]
         go_wp2
         exact ⟨_, rfl, hG, (fun w => Below.refl w.heap.size w) _, rfl⟩
        refine ⟨fun hf _ => ?_, ?_⟩
        ·obtain ⟨hq0, -⟩ := hf
         obtain rfl : x5 = _ := hq0
         refine .inl ⟨by rfl, ?_⟩
         simp only [Reg.ung]
         go_wp2
         exact ⟨_, rfl, hG, (fun w => Below.refl w.heap.size w) _, rfl⟩
        refine ⟨fun hf _ => ?_, ?_⟩
        ·obtain ⟨hq0, hq1, hq2, hq3, hq4, -, -⟩ := hf
         obtain rfl : x6 = _ := hq0
         obtain rfl : x9 = _ := hq1
         obtain rfl : x12 = _ := hq2
         obtain rfl : x13 = _ := hq3
         obtain rfl : x5 = _ := hq4
         refine .inl ⟨by rfl, ?_⟩
         simp only [Reg.ung]
         go_wp2_with ((go_at_call 33; refine (HIN.out _ hG).mono ?_; rintro e w5 ⟨rfl, hb⟩)); exact ⟨_, rfl, below_then hG hG.size hb, hb, rfl⟩
        refine ⟨fun hf _ => ?_, ?_⟩
        ·obtain ⟨hq0, hq1, -⟩ := hf
         obtain rfl : x14 = _ := hq0
         obtain rfl : x5 = _ := hq1
         refine .inl ⟨by rfl, ?_⟩
         simp only [Reg.ung]
         go_wp2
         exact ⟨_, rfl, hG, (fun w => Below.refl w.heap.size w) _, rfl⟩
        refine ⟨fun hf _ => ?_, ?_⟩
        ·obtain ⟨hq0, hq1, -⟩ := hf
         obtain rfl : x5 = _ := hq0
         obtain rfl : x15 = _ := hq1
         refine .inl ⟨by rfl, ?_⟩
         simp only [Reg.ung]
         go_wp2
         exact ⟨_, rfl, hG, (fun w => Below.refl w.heap.size w) _, rfl⟩
        exact trivial
       case he =>
        intro xs hl0_ wr hG hf
        obtain ⟨x0, xs1, rfl, hl1⟩ := Reg.len_succ hl0_
        obtain ⟨x1, xs2, rfl, hl2⟩ := Reg.len_succ hl1
        obtain ⟨x2, xs3, rfl, hl3⟩ := Reg.len_succ hl2
        obtain ⟨x3, xs4, rfl, hl4⟩ := Reg.len_succ hl3
        obtain ⟨x4, xs5, rfl, hl5⟩ := Reg.len_succ hl4
        obtain ⟨x5, xs6, rfl, hl6⟩ := Reg.len_succ hl5
        obtain ⟨x6, xs7, rfl, hl7⟩ := Reg.len_succ hl6
        obtain ⟨x7, xs8, rfl, hl8⟩ := Reg.len_succ hl7
        obtain ⟨x8, xs9, rfl, hl9⟩ := Reg.len_succ hl8
        obtain ⟨x9, xs10, rfl, hl10⟩ := Reg.len_succ hl9
        obtain ⟨x10, xs11, rfl, hl11⟩ := Reg.len_succ hl10
        obtain ⟨x11, xs12, rfl, hl12⟩ := Reg.len_succ hl11
        obtain ⟨x12, xs13, rfl, hl13⟩ := Reg.len_succ hl12
        obtain ⟨x13, xs14, rfl, hl14⟩ := Reg.len_succ hl13
        obtain ⟨x14, xs15, rfl, hl15⟩ := Reg.len_succ hl14
        obtain ⟨x15, xs16, rfl, hl16⟩ := Reg.len_succ hl15
        obtain ⟨x16, xs17, rfl, hl17⟩ := Reg.len_succ hl16
        obtain rfl := List.eq_nil_of_length_eq_zero hl17
        clear hl0_ hl1 hl2 hl3 hl4 hl5 hl6 hl7 hl8 hl9 hl10 hl11 hl12 hl13 hl14 hl15 hl16 hl17
        obtain ⟨hq0, hq1, hq2, hq3, hq4, hq5, hq6, hq7, hq8, hq9, hq10, hq11, hq12, hq13, hq14, hq15, hq16, -⟩ := hf
        obtain rfl : x0 = _ := hq0
        obtain rfl : x1 = _ := hq1
        obtain rfl : x2 = _ := hq2
        obtain rfl : x3 = _ := hq3
        obtain rfl : x4 = _ := hq4
        obtain rfl : x5 = _ := hq5
        obtain rfl : x6 = _ := hq6
        obtain rfl : x7 = _ := hq7
        obtain rfl : x8 = _ := hq8
        obtain rfl : x9 = _ := hq9
        obtain rfl : x10 = _ := hq10
        obtain rfl : x11 = _ := hq11
        obtain rfl : x12 = _ := hq12
        obtain rfl : x13 = _ := hq13
        obtain rfl : x14 = _ := hq14
        obtain rfl : x15 = _ := hq15
        obtain rfl : x16 = _ := hq16
        simp only [Reg.putL, Act.put, List.setIfInBounds_toArray, List.set_cons_succ, List.set_cons_zero]
        have HE := Aside0.mk (below_then HBQ.out HBQ.out.size hG)
        clear CV C7 hG HIN
        cases b with
        | true =>
         rw [if_pos rfl] at hr
         have HR := Aside0.mk hr
         clear hr
         go_wp2_with (fail)
         go_roundg k1
         case measure => omega
         case rel => exact ⟨2, by first | rfl | simp, ⟨by omega⟩, HE, HR⟩
        | false =>
         rw [if_neg (fun h => by cases h)] at hr
         subst hr
         go_wp2_with (fail)
         go_ret
         exact ⟨rfl, below_then HB4.out HB4.out.size HE.out⟩
    ·cases gk with
     | zero => exact absurd hjk (by omega)
     | succ k1 =>
      have hr : (if l3.length = 0 then atL (3 : Nat) ([(l1, wd), (l2, m), (l3, dy), (l4, y), (l5, mi)].drop 3) lg else if l3.any (inB 2 lg dy) = true then atL (3 : Nat) ([(l1, wd), (l2, m), (l3, dy), (l4, y), (l5, mi)].drop 3) lg else false) = r := HR.out
      rw [← H3.out.1] at hr
      obtain ⟨wD, hwd⟩ : ∃ wD, wD = wr.drew := ⟨_, rfl⟩
      have HWD := Aside0.mk hwd
      have HBQ := Aside0.mk (show Below w3.heap.size w3 wD by rw [hwd]; exact HB.out.drew)
      have HBW := Aside0.mk (below_then HB4.out HB4.out.size HBQ.out)
      have CV := (blk_cell ((HBW.out.block _ hlv).trans HBV.out) 3).trans rfl
      have C7 := (blk_cell ((HBQ.out.block _ (blk_lt HB74.out)).trans HB74.out) 2).trans rfl
      clear hwd HR
      by_cases h0 : n3 = 0
      ·rw [if_pos h0] at hr
       have HR := Aside0.mk hr
       have HH := H3
       clear hr H3
       subst h0
       obtain ⟨wd_, hwd_⟩ : ∃ wd_, wd_ = wD := ⟨_, rfl⟩
       go_wp2_with (fail)
       refine Reg.region_list hmix [some 35, some 36, some 37, some 38, some 39, some 40, some 41, some 42, some 43, some 44, some 45, some 46, some 47, some 48, some 49, some 50, some 51] [[], [0], [1], [2], [3], [4], [5], [5], [7, 5], [8, 5], [5], [10, 5], [11, 5], [5], [6, 9, 12, 13, 5, 5], [14, 5], [5, 15]] (fun w => Aside0 (w = wD)) (fun w w' => Aside0 (w' = w)) [(fun v w => v = (.pointer (some ⟨bv, 3, none⟩) : Value)), (fun v w => v = (.pointer (some ⟨bv, 3, none⟩) : Value)), (fun v w => v = (.slice A3 0 c3 : Value)), (fun v w => v = (.int .i64 0 : Value)), (fun v w => v = (.bool false : Value)), (fun v w => v = (.bool false : Value)), (fun v w => v = (undef : Value)), (fun v w => v = (undef : Value)), (fun v w => v = (undef : Value)), (fun v w => v = (undef : Value)), (fun v w => v = (undef : Value)), (fun v w => v = (undef : Value)), (fun v w => v = (undef : Value)), (fun v w => v = (undef : Value)), (fun v w => v = (undef : Value)), (fun v w => v = (undef : Value)), (fun v w => v = (.bool false : Value))] rfl (by kernel_rfl) (by kernel_rfl) (fun _ => ⟨rfl⟩) (fun _ _ hr => Reg.mono_cons (fun _ h => h) (Reg.mono_cons (fun _ h => h) (Reg.mono_cons (fun _ h => h) (Reg.mono_cons (fun _ h => h) (Reg.mono_cons (fun _ h => h) (Reg.mono_cons (fun _ h => h) (Reg.mono_cons (fun _ h => h) (Reg.mono_cons (fun _ h => h) (Reg.mono_cons (fun _ h => h) (Reg.mono_cons (fun _ h => h) (Reg.mono_cons (fun _ h => h) (Reg.mono_cons (fun _ h => h) (Reg.mono_cons (fun _ h => h) (Reg.mono_cons (fun _ h => h) (Reg.mono_cons (fun _ h => h) (Reg.mono_cons (fun _ h => h) (Reg.mono_cons (fun _ h => h) (Reg.mono_nil)))))))))))))))))) (⟨HWD.out.symm⟩) ?hs ?he
       case hs =>
        intro xs0 xs hx0 hl0_ wr hG
        clear hx0
        obtain ⟨x0, xs1, rfl, hl1⟩ := Reg.len_succ hl0_
        obtain ⟨x1, xs2, rfl, hl2⟩ := Reg.len_succ hl1
        obtain ⟨x2, xs3, rfl, hl3⟩ := Reg.len_succ hl2
        obtain ⟨x3, xs4, rfl, hl4⟩ := Reg.len_succ hl3
        obtain ⟨x4, xs5, rfl, hl5⟩ := Reg.len_succ hl4
        obtain ⟨x5, xs6, rfl, hl6⟩ := Reg.len_succ hl5
        obtain ⟨x6, xs7, rfl, hl7⟩ := Reg.len_succ hl6
        obtain ⟨x7, xs8, rfl, hl8⟩ := Reg.len_succ hl7
        obtain ⟨x8, xs9, rfl, hl9⟩ := Reg.len_succ hl8
        obtain ⟨x9, xs10, rfl, hl10⟩ := Reg.len_succ hl9
        obtain ⟨x10, xs11, rfl, hl11⟩ := Reg.len_succ hl10
        obtain ⟨x11, xs12, rfl, hl12⟩ := Reg.len_succ hl11
        obtain ⟨x12, xs13, rfl, hl13⟩ := Reg.len_succ hl12
        obtain ⟨x13, xs14, rfl, hl14⟩ := Reg.len_succ hl13
        obtain ⟨x14, xs15, rfl, hl15⟩ := Reg.len_succ hl14
        obtain ⟨x15, xs16, rfl, hl16⟩ := Reg.len_succ hl15
        obtain ⟨x16, xs17, rfl, hl17⟩ := Reg.len_succ hl16
        obtain rfl := List.eq_nil_of_length_eq_zero hl17
        clear hl0_ hl1 hl2 hl3 hl4 hl5 hl6 hl7 hl8 hl9 hl10 hl11 hl12 hl13 hl14 hl15 hl16 hl17
        simp only [Reg.putL, Act.put, List.setIfInBounds_toArray, List.set_cons_succ, List.set_cons_zero]
        obtain rfl := hG.out
        refine ⟨fun hf _ => ?_, ?_⟩
        ·clear hf
         refine .inl ⟨by rfl, ?_⟩
         simp only [Reg.ung]
         go_wp2
         first | exact ⟨_, rfl, hG, ⟨rfl⟩, rfl⟩ | exact ⟨rfl, hG, ⟨rfl⟩, rfl⟩ | exact ⟨rfl, hG, ⟨rfl⟩⟩ | exact ⟨rfl, ⟨rfl⟩⟩
        refine ⟨fun hf _ => ?_, ?_⟩
        ·obtain ⟨hq0, -⟩ := hf
         obtain rfl : x0 = _ := hq0
         refine .inl ⟨by rfl, ?_⟩
         simp only [Reg.ung]
         go_wp2
         first | exact ⟨_, rfl, hG, ⟨rfl⟩, rfl⟩ | exact ⟨rfl, hG, ⟨rfl⟩, rfl⟩ | exact ⟨rfl, hG, ⟨rfl⟩⟩ | exact ⟨rfl, ⟨rfl⟩⟩
        refine ⟨fun hf _ => ?_, ?_⟩
        ·obtain ⟨hq0, -⟩ := hf
         obtain rfl : x1 = _ := hq0
         refine .inl ⟨by rfl, ?_⟩
         simp only [Reg.ung]
         go_wp2
         first | exact ⟨_, rfl, hG, ⟨rfl⟩, rfl⟩ | exact ⟨rfl, hG, ⟨rfl⟩, rfl⟩ | exact ⟨rfl, hG, ⟨rfl⟩⟩ | exact ⟨rfl, ⟨rfl⟩⟩
        refine ⟨fun hf _ => ?_, ?_⟩
        ·obtain ⟨hq0, -⟩ := hf
         obtain rfl : x2 = _ := hq0
         refine .inl ⟨by rfl, ?_⟩
         simp only [Reg.ung]
         go_wp2
         first | exact ⟨_, rfl, hG, ⟨rfl⟩, rfl⟩ | exact ⟨rfl, hG, ⟨rfl⟩, rfl⟩ | exact ⟨rfl, hG, ⟨rfl⟩⟩ | exact ⟨rfl, ⟨rfl⟩⟩
        refine ⟨fun hf _ => ?_, ?_⟩
        ·obtain ⟨hq0, -⟩ := hf
         obtain rfl : x3 = _ := hq0
         refine .inl ⟨by rfl, ?_⟩
         simp only [Reg.ung]
         go_wp2
         first | exact ⟨_, rfl, hG, ⟨rfl⟩, rfl⟩ | exact ⟨rfl, hG, ⟨rfl⟩, rfl⟩ | exact ⟨rfl, hG, ⟨rfl⟩⟩ | exact ⟨rfl, ⟨rfl⟩⟩
        refine ⟨fun hf _ => ?_, ?_⟩
        ·obtain ⟨hq0, -⟩ := hf
         obtain rfl : x4 = _ := hq0
         refine .inl ⟨by rfl, ?_⟩
         simp only [Reg.ung]
         go_wp2
         first | exact ⟨_, rfl, hG, ⟨rfl⟩, rfl⟩ | exact ⟨rfl, hG, ⟨rfl⟩, rfl⟩ | exact ⟨rfl, hG, ⟨rfl⟩⟩ | exact ⟨rfl, ⟨rfl⟩⟩
        refine ⟨fun hf _ => ?_, ?_⟩
        ·obtain ⟨hq0, -⟩ := hf
         obtain rfl : x5 = _ := hq0
         exact .inr ⟨by rfl, rfl⟩
        refine ⟨fun hf _ => ?_, ?_⟩
        ·obtain ⟨hq0, -⟩ := hf
         obtain rfl : x5 = _ := hq0
         exact .inr ⟨by rfl, rfl⟩
        refine ⟨fun hf _ => ?_, ?_⟩
        ·obtain ⟨hq0, hq1, -⟩ := hf
         obtain rfl : x7 = _ := hq0
         obtain rfl : x5 = _ := hq1
         exact .inr ⟨by rfl, rfl⟩
        refine ⟨fun hf _ => ?_, ?_⟩
        ·obtain ⟨hq0, hq1, -⟩ := hf
         obtain rfl : x8 = _ := hq0
         obtain rfl : x5 = _ := hq1
         exact .inr ⟨by rfl, rfl⟩
        refine ⟨fun hf _ => ?_, ?_⟩
        ·obtain ⟨hq0, -⟩ := hf
         obtain rfl : x5 = _ := hq0
         exact .inr ⟨by rfl, rfl⟩
        refine ⟨fun hf _ => ?_, ?_⟩
        ·obtain ⟨hq0, hq1, -⟩ := hf
         obtain rfl : x10 = _ := hq0
         obtain rfl : x5 = _ := hq1
         exact .inr ⟨by rfl, rfl⟩
        refine ⟨fun hf _ => ?_, ?_⟩
        ·obtain ⟨hq0, hq1, -⟩ := hf
         obtain rfl : x11 = _ := hq0
         obtain rfl : x5 = _ := hq1
         exact .inr ⟨by rfl, rfl⟩
        refine ⟨fun hf _ => ?_, ?_⟩
        ·obtain ⟨hq0, -⟩ := hf
         obtain rfl : x5 = _ := hq0
         exact .inr ⟨by rfl, rfl⟩
        refine ⟨fun hf _ => ?_, ?_⟩
        ·obtain ⟨hq0, hq1, hq2, hq3, hq4, -, -⟩ := hf
         obtain rfl : x6 = _ := hq0
         obtain rfl : x9 = _ := hq1
         obtain rfl : x12 = _ := hq2
         obtain rfl : x13 = _ := hq3
         obtain rfl : x5 = _ := hq4
         exact .inr ⟨by rfl, rfl⟩
        refine ⟨fun hf _ => ?_, ?_⟩
        ·obtain ⟨hq0, hq1, -⟩ := hf
         obtain rfl : x14 = _ := hq0
         obtain rfl : x5 = _ := hq1
         exact .inr ⟨by rfl, rfl⟩
        refine ⟨fun hf _ => ?_, ?_⟩
        ·obtain ⟨hq0, hq1, -⟩ := hf
         obtain rfl : x5 = _ := hq0
         obtain rfl : x15 = _ := hq1
         refine .inl ⟨by rfl, ?_⟩
         simp only [Reg.ung]
         go_wp2
         first | exact ⟨_, rfl, hG, ⟨rfl⟩, rfl⟩ | exact ⟨rfl, hG, ⟨rfl⟩, rfl⟩ | exact ⟨rfl, hG, ⟨rfl⟩⟩ | exact ⟨rfl, ⟨rfl⟩⟩
        exact trivial
       case he =>
        intro xs hl0_ wr hG hf
        obtain ⟨x0, xs1, rfl, hl1⟩ := Reg.len_succ hl0_
        obtain ⟨x1, xs2, rfl, hl2⟩ := Reg.len_succ hl1
        obtain ⟨x2, xs3, rfl, hl3⟩ := Reg.len_succ hl2
        obtain ⟨x3, xs4, rfl, hl4⟩ := Reg.len_succ hl3
        obtain ⟨x4, xs5, rfl, hl5⟩ := Reg.len_succ hl4
        obtain ⟨x5, xs6, rfl, hl6⟩ := Reg.len_succ hl5
        obtain ⟨x6, xs7, rfl, hl7⟩ := Reg.len_succ hl6
        obtain ⟨x7, xs8, rfl, hl8⟩ := Reg.len_succ hl7
        obtain ⟨x8, xs9, rfl, hl9⟩ := Reg.len_succ hl8
        obtain ⟨x9, xs10, rfl, hl10⟩ := Reg.len_succ hl9
        obtain ⟨x10, xs11, rfl, hl11⟩ := Reg.len_succ hl10
        obtain ⟨x11, xs12, rfl, hl12⟩ := Reg.len_succ hl11
        obtain ⟨x12, xs13, rfl, hl13⟩ := Reg.len_succ hl12
        obtain ⟨x13, xs14, rfl, hl14⟩ := Reg.len_succ hl13
        obtain ⟨x14, xs15, rfl, hl15⟩ := Reg.len_succ hl14
        obtain ⟨x15, xs16, rfl, hl16⟩ := Reg.len_succ hl15
        obtain ⟨x16, xs17, rfl, hl17⟩ := Reg.len_succ hl16
        obtain rfl := List.eq_nil_of_length_eq_zero hl17
        clear hl0_ hl1 hl2 hl3 hl4 hl5 hl6 hl7 hl8 hl9 hl10 hl11 hl12 hl13 hl14 hl15 hl16 hl17
        obtain ⟨hq0, hq1, hq2, hq3, hq4, hq5, hq6, hq7, hq8, hq9, hq10, hq11, hq12, hq13, hq14, hq15, hq16, -⟩ := hf
        obtain rfl : x0 = _ := hq0
        obtain rfl : x1 = _ := hq1
        obtain rfl : x2 = _ := hq2
        obtain rfl : x3 = _ := hq3
        obtain rfl : x4 = _ := hq4
        obtain rfl : x5 = _ := hq5
        obtain rfl : x6 = _ := hq6
        obtain rfl : x7 = _ := hq7
        obtain rfl : x8 = _ := hq8
        obtain rfl : x9 = _ := hq9
        obtain rfl : x10 = _ := hq10
        obtain rfl : x11 = _ := hq11
        obtain rfl : x12 = _ := hq12
        obtain rfl : x13 = _ := hq13
        obtain rfl : x14 = _ := hq14
        obtain rfl : x15 = _ := hq15
        obtain rfl : x16 = _ := hq16
        simp only [Reg.putL, Act.put, List.setIfInBounds_toArray, List.set_cons_succ, List.set_cons_zero]
        obtain rfl := hG.out
        clear CV C7
        go_wp2_with (fail)
        go_roundg k1
        case measure => omega
        case rel => exact ⟨3, by first | rfl | simp, ⟨by omega⟩, HBQ, HR⟩
      ·rw [if_neg h0] at hr
       have hp : 0 < n3 := by omega
       have d1 : decide ((n3 : Int) > 0) = true := decide_eq_true (by omega)
       have d2 : decide ((0 : Int) < (n3 : Int)) = true := d1
       have d3 : decide (0 < n3) = true := decide_eq_true hp
       have HIN := Aside0.mk (show ∀ W, Below wD.heap.size wD W → Calls Tryd.prog 33 #[.int .i64 2, .slice A3 n3 c3, .int .i64 dy, .int .i64 lg] W _ from fun W hW => in_any A3 c3 n3 l3 2 dy lg W H3.out.1 (Kd.C_below (Kd.C_below H3.out.2 HBW.out) hW))
       obtain ⟨b, hb⟩ : ∃ b, b = l3.any (inB 2 lg dy) := ⟨_, rfl⟩
       rw [← hb] at hr HIN
       clear hb
       go_wp2_with (fail)
       refine Reg.region_list hmix [some 35, some 36, some 37, some 38, some 39, some 40, some 41, some 42, some 43, some 44, some 45, some 46, some 47, some 48, some 49, some 50, some 51] [[], [0], [1], [2], [3], [4], [5], [5], [7, 5], [8, 5], [5], [10, 5], [11, 5], [5], [6, 9, 12, 13, 5, 5], [14, 5], [5, 15]] (fun w => Below wD.heap.size wD w) (fun w w' => Below w.heap.size w w') [(fun v w => v = (.pointer (some ⟨bv, 3, none⟩) : Value)), (fun v w => v = (.pointer (some ⟨bv, 3, none⟩) : Value)), (fun v w => v = (.slice A3 n3 c3 : Value)), (fun v w => v = (.int .i64 (n3 : Int) : Value)), (fun v w => v = (.bool true : Value)), (fun v w => v = (.bool true : Value)), (fun v w => v = (.int .i64 2 : Value)), (fun v w => v = (.pointer (some ⟨bv, 3, none⟩) : Value)), (fun v w => v = (.pointer (some ⟨bv, 3, none⟩) : Value)), (fun v w => v = (.slice A3 n3 c3 : Value)), (fun v w => v = (.int .i64 2 : Value)), (fun v w => v = (.pointer (some ⟨b7, 2, none⟩) : Value)), (fun v w => v = (.int .i64 dy : Value)), (fun v w => v = (.int .i64 lg : Value)), (fun v w => v = (.bool b : Value)), (fun v w => v = (.bool (!b) : Value)), (fun v w => v = (.bool (!b) : Value))] rfl (by kernel_rfl) (by kernel_rfl) (fun w => Below.refl w.heap.size w) (fun _ _ hr => Reg.mono_cons (fun _ h => h) (Reg.mono_cons (fun _ h => h) (Reg.mono_cons (fun _ h => h) (Reg.mono_cons (fun _ h => h) (Reg.mono_cons (fun _ h => h) (Reg.mono_cons (fun _ h => h) (Reg.mono_cons (fun _ h => h) (Reg.mono_cons (fun _ h => h) (Reg.mono_cons (fun _ h => h) (Reg.mono_cons (fun _ h => h) (Reg.mono_cons (fun _ h => h) (Reg.mono_cons (fun _ h => h) (Reg.mono_cons (fun _ h => h) (Reg.mono_cons (fun _ h => h) (Reg.mono_cons (fun _ h => h) (Reg.mono_cons (fun _ h => h) (Reg.mono_cons (fun _ h => h) (Reg.mono_nil)))))))))))))))))) (by rw [← HWD.out]; exact Below.refl _ _) ?hs ?he
       case hs =>
        intro xs0 xs hx0 hl0_ wr hG
        clear hx0
        obtain ⟨x0, xs1, rfl, hl1⟩ := Reg.len_succ hl0_
        obtain ⟨x1, xs2, rfl, hl2⟩ := Reg.len_succ hl1
        obtain ⟨x2, xs3, rfl, hl3⟩ := Reg.len_succ hl2
        obtain ⟨x3, xs4, rfl, hl4⟩ := Reg.len_succ hl3
        obtain ⟨x4, xs5, rfl, hl5⟩ := Reg.len_succ hl4
        obtain ⟨x5, xs6, rfl, hl6⟩ := Reg.len_succ hl5
        obtain ⟨x6, xs7, rfl, hl7⟩ := Reg.len_succ hl6
        obtain ⟨x7, xs8, rfl, hl8⟩ := Reg.len_succ hl7
        obtain ⟨x8, xs9, rfl, hl9⟩ := Reg.len_succ hl8
        obtain ⟨x9, xs10, rfl, hl10⟩ := Reg.len_succ hl9
        obtain ⟨x10, xs11, rfl, hl11⟩ := Reg.len_succ hl10
        obtain ⟨x11, xs12, rfl, hl12⟩ := Reg.len_succ hl11
        obtain ⟨x12, xs13, rfl, hl13⟩ := Reg.len_succ hl12
        obtain ⟨x13, xs14, rfl, hl14⟩ := Reg.len_succ hl13
        obtain ⟨x14, xs15, rfl, hl15⟩ := Reg.len_succ hl14
        obtain ⟨x15, xs16, rfl, hl16⟩ := Reg.len_succ hl15
        obtain ⟨x16, xs17, rfl, hl17⟩ := Reg.len_succ hl16
        obtain rfl := List.eq_nil_of_length_eq_zero hl17
        clear hl0_ hl1 hl2 hl3 hl4 hl5 hl6 hl7 hl8 hl9 hl10 hl11 hl12 hl13 hl14 hl15 hl16 hl17
        simp only [Reg.putL, Act.put, List.setIfInBounds_toArray, List.set_cons_succ, List.set_cons_zero]
        have cv := (hG.cell (World.block_lt_of_cell? wD _ CV)).trans CV; have c7 := (hG.cell (World.block_lt_of_cell? wD _ C7)).trans C7
        refine ⟨fun hf _ => ?_, ?_⟩
        ·clear hf
         refine .inl ⟨by rfl, ?_⟩
         simp only [Reg.ung]
         go_wp2
         exact ⟨_, rfl, hG, (fun w => Below.refl w.heap.size w) _, rfl⟩
        refine ⟨fun hf _ => ?_, ?_⟩
        ·obtain ⟨hq0, -⟩ := hf
         obtain rfl : x0 = _ := hq0
         refine .inl ⟨by rfl, ?_⟩
         simp only [Reg.ung]
         go_wp2
         exact ⟨_, rfl, hG, (fun w => Below.refl w.heap.size w) _, rfl⟩
        refine ⟨fun hf _ => ?_, ?_⟩
        ·obtain ⟨hq0, -⟩ := hf
         obtain rfl : x1 = _ := hq0
         refine .inl ⟨by rfl, ?_⟩
         simp only [Reg.ung]
         go_wp2
         exact ⟨_, rfl, hG, (fun w => Below.refl w.heap.size w) _, rfl⟩
        refine ⟨fun hf _ => ?_, ?_⟩
        ·obtain ⟨hq0, -⟩ := hf
         obtain rfl : x2 = _ := hq0
         refine .inl ⟨by rfl, ?_⟩
         simp only [Reg.ung]
         go_wp2
         exact ⟨_, rfl, hG, (fun w => Below.refl w.heap.size w) _, rfl⟩
        refine ⟨fun hf _ => ?_, ?_⟩
        ·obtain ⟨hq0, -⟩ := hf
         obtain rfl : x3 = _ := hq0
         refine .inl ⟨by rfl, ?_⟩
         simp only [Reg.ung]
         go_wp2
         exact ⟨_, rfl, hG, (fun w => Below.refl w.heap.size w) _, rfl⟩
        refine ⟨fun hf _ => ?_, ?_⟩
        ·obtain ⟨hq0, -⟩ := hf
         obtain rfl : x4 = _ := hq0
         refine .inl ⟨by rfl, ?_⟩
         simp only [Reg.ung]
         go_wp2
         exact ⟨_, rfl, hG, (fun w => Below.refl w.heap.size w) _, rfl⟩
        refine ⟨fun hf _ => ?_, ?_⟩
        ·obtain ⟨hq0, -⟩ := hf
         obtain rfl : x5 = _ := hq0
         refine .inl ⟨by rfl, ?_⟩
         simp only [Reg.ung]
         go_wp2
         exact ⟨_, rfl, hG, (fun w => Below.refl w.heap.size w) _, rfl⟩
        refine ⟨fun hf _ => ?_, ?_⟩
        ·obtain ⟨hq0, -⟩ := hf
         obtain rfl : x5 = _ := hq0
         refine .inl ⟨by rfl, ?_⟩
         simp only [Reg.ung]
         go_wp2
         exact ⟨_, rfl, hG, (fun w => Below.refl w.heap.size w) _, rfl⟩
        refine ⟨fun hf _ => ?_, ?_⟩
        ·obtain ⟨hq0, hq1, -⟩ := hf
         obtain rfl : x7 = _ := hq0
         obtain rfl : x5 = _ := hq1
         refine .inl ⟨by rfl, ?_⟩
         simp only [Reg.ung]
         go_wp2
         exact ⟨_, rfl, hG, (fun w => Below.refl w.heap.size w) _, rfl⟩
        refine ⟨fun hf _ => ?_, ?_⟩
        ·obtain ⟨hq0, hq1, -⟩ := hf
         obtain rfl : x8 = _ := hq0
         obtain rfl : x5 = _ := hq1
         refine .inl ⟨by rfl, ?_⟩
         simp only [Reg.ung]
         go_wp2
         exact ⟨_, rfl, hG, (fun w => Below.refl w.heap.size w) _, rfl⟩
        refine ⟨fun hf _ => ?_, ?_⟩
        ·obtain ⟨hq0, -⟩ := hf
         obtain rfl : x5 = _ := hq0
         refine .inl ⟨by rfl, ?_⟩
         simp only [Reg.ung]
         go_wp2
         exact ⟨_, rfl, hG, (fun w => Below.refl w.heap.size w) _, rfl⟩
        refine ⟨fun hf _ => ?_, ?_⟩
        ·obtain ⟨hq0, hq1, -⟩ := hf
         obtain rfl : x10 = _ := hq0
         obtain rfl : x5 = _ := hq1
         refine .inl ⟨by rfl, ?_⟩
         simp only [Reg.ung]
         go_wp2
         exact ⟨_, rfl, hG, (fun w => Below.refl w.heap.size w) _, rfl⟩
        refine ⟨fun hf _ => ?_, ?_⟩
        ·obtain ⟨hq0, hq1, -⟩ := hf
         obtain rfl : x11 = _ := hq0
         obtain rfl : x5 = _ := hq1
         refine .inl ⟨by rfl, ?_⟩
         simp only [Reg.ung]
         go_wp2
         exact ⟨_, rfl, hG, (fun w => Below.refl w.heap.size w) _, rfl⟩
        refine ⟨fun hf _ => ?_, ?_⟩
        ·obtain ⟨hq0, -⟩ := hf
         obtain rfl : x5 = _ := hq0
         refine .inl ⟨by rfl, ?_⟩
         simp only [Reg.ung]
         go_wp2
         exact ⟨_, rfl, hG, (fun w => Below.refl w.heap.size w) _, rfl⟩
        refine ⟨fun hf _ => ?_, ?_⟩
        ·obtain ⟨hq0, hq1, hq2, hq3, hq4, -, -⟩ := hf
         obtain rfl : x6 = _ := hq0
         obtain rfl : x9 = _ := hq1
         obtain rfl : x12 = _ := hq2
         obtain rfl : x13 = _ := hq3
         obtain rfl : x5 = _ := hq4
         refine .inl ⟨by rfl, ?_⟩
         simp only [Reg.ung]
         go_wp2_with ((go_at_call 33; refine (HIN.out _ hG).mono ?_; rintro e w5 ⟨rfl, hb⟩)); exact ⟨_, rfl, below_then hG hG.size hb, hb, rfl⟩
        refine ⟨fun hf _ => ?_, ?_⟩
        ·obtain ⟨hq0, hq1, -⟩ := hf
         obtain rfl : x14 = _ := hq0
         obtain rfl : x5 = _ := hq1
         refine .inl ⟨by rfl, ?_⟩
         simp only [Reg.ung]
         go_wp2
         exact ⟨_, rfl, hG, (fun w => Below.refl w.heap.size w) _, rfl⟩
        refine ⟨fun hf _ => ?_, ?_⟩
        ·obtain ⟨hq0, hq1, -⟩ := hf
         obtain rfl : x5 = _ := hq0
         obtain rfl : x15 = _ := hq1
         refine .inl ⟨by rfl, ?_⟩
         simp only [Reg.ung]
         go_wp2
         exact ⟨_, rfl, hG, (fun w => Below.refl w.heap.size w) _, rfl⟩
        exact trivial
       case he =>
        intro xs hl0_ wr hG hf
        obtain ⟨x0, xs1, rfl, hl1⟩ := Reg.len_succ hl0_
        obtain ⟨x1, xs2, rfl, hl2⟩ := Reg.len_succ hl1
        obtain ⟨x2, xs3, rfl, hl3⟩ := Reg.len_succ hl2
        obtain ⟨x3, xs4, rfl, hl4⟩ := Reg.len_succ hl3
        obtain ⟨x4, xs5, rfl, hl5⟩ := Reg.len_succ hl4
        obtain ⟨x5, xs6, rfl, hl6⟩ := Reg.len_succ hl5
        obtain ⟨x6, xs7, rfl, hl7⟩ := Reg.len_succ hl6
        obtain ⟨x7, xs8, rfl, hl8⟩ := Reg.len_succ hl7
        obtain ⟨x8, xs9, rfl, hl9⟩ := Reg.len_succ hl8
        obtain ⟨x9, xs10, rfl, hl10⟩ := Reg.len_succ hl9
        obtain ⟨x10, xs11, rfl, hl11⟩ := Reg.len_succ hl10
        obtain ⟨x11, xs12, rfl, hl12⟩ := Reg.len_succ hl11
        obtain ⟨x12, xs13, rfl, hl13⟩ := Reg.len_succ hl12
        obtain ⟨x13, xs14, rfl, hl14⟩ := Reg.len_succ hl13
        obtain ⟨x14, xs15, rfl, hl15⟩ := Reg.len_succ hl14
        obtain ⟨x15, xs16, rfl, hl16⟩ := Reg.len_succ hl15
        obtain ⟨x16, xs17, rfl, hl17⟩ := Reg.len_succ hl16
        obtain rfl := List.eq_nil_of_length_eq_zero hl17
        clear hl0_ hl1 hl2 hl3 hl4 hl5 hl6 hl7 hl8 hl9 hl10 hl11 hl12 hl13 hl14 hl15 hl16 hl17
        obtain ⟨hq0, hq1, hq2, hq3, hq4, hq5, hq6, hq7, hq8, hq9, hq10, hq11, hq12, hq13, hq14, hq15, hq16, -⟩ := hf
        obtain rfl : x0 = _ := hq0
        obtain rfl : x1 = _ := hq1
        obtain rfl : x2 = _ := hq2
        obtain rfl : x3 = _ := hq3
        obtain rfl : x4 = _ := hq4
        obtain rfl : x5 = _ := hq5
        obtain rfl : x6 = _ := hq6
        obtain rfl : x7 = _ := hq7
        obtain rfl : x8 = _ := hq8
        obtain rfl : x9 = _ := hq9
        obtain rfl : x10 = _ := hq10
        obtain rfl : x11 = _ := hq11
        obtain rfl : x12 = _ := hq12
        obtain rfl : x13 = _ := hq13
        obtain rfl : x14 = _ := hq14
        obtain rfl : x15 = _ := hq15
        obtain rfl : x16 = _ := hq16
        simp only [Reg.putL, Act.put, List.setIfInBounds_toArray, List.set_cons_succ, List.set_cons_zero]
        have HE := Aside0.mk (below_then HBQ.out HBQ.out.size hG)
        clear CV C7 hG HIN
        cases b with
        | true =>
         rw [if_pos rfl] at hr
         have HR := Aside0.mk hr
         clear hr
         go_wp2_with (fail)
         go_roundg k1
         case measure => omega
         case rel => exact ⟨3, by first | rfl | simp, ⟨by omega⟩, HE, HR⟩
        | false =>
         rw [if_neg (fun h => by cases h)] at hr
         subst hr
         go_wp2_with (fail)
         go_ret
         exact ⟨rfl, below_then HB4.out HB4.out.size HE.out⟩
    ·cases gk with
     | zero => exact absurd hjk (by omega)
     | succ k1 =>
      have hr : (if l4.length = 0 then atL (4 : Nat) ([(l1, wd), (l2, m), (l3, dy), (l4, y), (l5, mi)].drop 4) lg else if l4.any (inB 3 lg y) = true then atL (4 : Nat) ([(l1, wd), (l2, m), (l3, dy), (l4, y), (l5, mi)].drop 4) lg else false) = r := HR.out
      rw [← H4.out.1] at hr
      obtain ⟨wD, hwd⟩ : ∃ wD, wD = wr.drew := ⟨_, rfl⟩
      have HWD := Aside0.mk hwd
      have HBQ := Aside0.mk (show Below w3.heap.size w3 wD by rw [hwd]; exact HB.out.drew)
      have HBW := Aside0.mk (below_then HB4.out HB4.out.size HBQ.out)
      have CV := (blk_cell ((HBW.out.block _ hlv).trans HBV.out) 4).trans rfl
      have C7 := (blk_cell ((HBQ.out.block _ (blk_lt HB74.out)).trans HB74.out) 3).trans rfl
      clear hwd HR
      by_cases h0 : n4 = 0
      ·rw [if_pos h0] at hr
       have HR := Aside0.mk hr
       have HH := H4
       clear hr H4
       subst h0
       obtain ⟨wd_, hwd_⟩ : ∃ wd_, wd_ = wD := ⟨_, rfl⟩
       go_wp2_with (fail)
       refine Reg.region_list hmix [some 35, some 36, some 37, some 38, some 39, some 40, some 41, some 42, some 43, some 44, some 45, some 46, some 47, some 48, some 49, some 50, some 51] [[], [0], [1], [2], [3], [4], [5], [5], [7, 5], [8, 5], [5], [10, 5], [11, 5], [5], [6, 9, 12, 13, 5, 5], [14, 5], [5, 15]] (fun w => Aside0 (w = wD)) (fun w w' => Aside0 (w' = w)) [(fun v w => v = (.pointer (some ⟨bv, 4, none⟩) : Value)), (fun v w => v = (.pointer (some ⟨bv, 4, none⟩) : Value)), (fun v w => v = (.slice A4 0 c4 : Value)), (fun v w => v = (.int .i64 0 : Value)), (fun v w => v = (.bool false : Value)), (fun v w => v = (.bool false : Value)), (fun v w => v = (undef : Value)), (fun v w => v = (undef : Value)), (fun v w => v = (undef : Value)), (fun v w => v = (undef : Value)), (fun v w => v = (undef : Value)), (fun v w => v = (undef : Value)), (fun v w => v = (undef : Value)), (fun v w => v = (undef : Value)), (fun v w => v = (undef : Value)), (fun v w => v = (undef : Value)), (fun v w => v = (.bool false : Value))] rfl (by kernel_rfl) (by kernel_rfl) (fun _ => ⟨rfl⟩) (fun _ _ hr => Reg.mono_cons (fun _ h => h) (Reg.mono_cons (fun _ h => h) (Reg.mono_cons (fun _ h => h) (Reg.mono_cons (fun _ h => h) (Reg.mono_cons (fun _ h => h) (Reg.mono_cons (fun _ h => h) (Reg.mono_cons (fun _ h => h) (Reg.mono_cons (fun _ h => h) (Reg.mono_cons (fun _ h => h) (Reg.mono_cons (fun _ h => h) (Reg.mono_cons (fun _ h => h) (Reg.mono_cons (fun _ h => h) (Reg.mono_cons (fun _ h => h) (Reg.mono_cons (fun _ h => h) (Reg.mono_cons (fun _ h => h) (Reg.mono_cons (fun _ h => h) (Reg.mono_cons (fun _ h => h) (Reg.mono_nil)))))))))))))))))) (⟨HWD.out.symm⟩) ?hs ?he
       case hs =>
        intro xs0 xs hx0 hl0_ wr hG
        clear hx0
        obtain ⟨x0, xs1, rfl, hl1⟩ := Reg.len_succ hl0_
        obtain ⟨x1, xs2, rfl, hl2⟩ := Reg.len_succ hl1
        obtain ⟨x2, xs3, rfl, hl3⟩ := Reg.len_succ hl2
        obtain ⟨x3, xs4, rfl, hl4⟩ := Reg.len_succ hl3
        obtain ⟨x4, xs5, rfl, hl5⟩ := Reg.len_succ hl4
        obtain ⟨x5, xs6, rfl, hl6⟩ := Reg.len_succ hl5
        obtain ⟨x6, xs7, rfl, hl7⟩ := Reg.len_succ hl6
        obtain ⟨x7, xs8, rfl, hl8⟩ := Reg.len_succ hl7
        obtain ⟨x8, xs9, rfl, hl9⟩ := Reg.len_succ hl8
        obtain ⟨x9, xs10, rfl, hl10⟩ := Reg.len_succ hl9
        obtain ⟨x10, xs11, rfl, hl11⟩ := Reg.len_succ hl10
        obtain ⟨x11, xs12, rfl, hl12⟩ := Reg.len_succ hl11
        obtain ⟨x12, xs13, rfl, hl13⟩ := Reg.len_succ hl12
        obtain ⟨x13, xs14, rfl, hl14⟩ := Reg.len_succ hl13
        obtain ⟨x14, xs15, rfl, hl15⟩ := Reg.len_succ hl14
        obtain ⟨x15, xs16, rfl, hl16⟩ := Reg.len_succ hl15
        obtain ⟨x16, xs17, rfl, hl17⟩ := Reg.len_succ hl16
        obtain rfl := List.eq_nil_of_length_eq_zero hl17
        clear hl0_ hl1 hl2 hl3 hl4 hl5 hl6 hl7 hl8 hl9 hl10 hl11 hl12 hl13 hl14 hl15 hl16 hl17
        simp only [Reg.putL, Act.put, List.setIfInBounds_toArray, List.set_cons_succ, List.set_cons_zero]
        obtain rfl := hG.out
        refine ⟨fun hf _ => ?_, ?_⟩
        ·clear hf
         refine .inl ⟨by rfl, ?_⟩
         simp only [Reg.ung]
         go_wp2
         first | exact ⟨_, rfl, hG, ⟨rfl⟩, rfl⟩ | exact ⟨rfl, hG, ⟨rfl⟩, rfl⟩ | exact ⟨rfl, hG, ⟨rfl⟩⟩ | exact ⟨rfl, ⟨rfl⟩⟩
        refine ⟨fun hf _ => ?_, ?_⟩
        ·obtain ⟨hq0, -⟩ := hf
         obtain rfl : x0 = _ := hq0
         refine .inl ⟨by rfl, ?_⟩
         simp only [Reg.ung]
         go_wp2
         first | exact ⟨_, rfl, hG, ⟨rfl⟩, rfl⟩ | exact ⟨rfl, hG, ⟨rfl⟩, rfl⟩ | exact ⟨rfl, hG, ⟨rfl⟩⟩ | exact ⟨rfl, ⟨rfl⟩⟩
        refine ⟨fun hf _ => ?_, ?_⟩
        ·obtain ⟨hq0, -⟩ := hf
         obtain rfl : x1 = _ := hq0
         refine .inl ⟨by rfl, ?_⟩
         simp only [Reg.ung]
         go_wp2
         first | exact ⟨_, rfl, hG, ⟨rfl⟩, rfl⟩ | exact ⟨rfl, hG, ⟨rfl⟩, rfl⟩ | exact ⟨rfl, hG, ⟨rfl⟩⟩ | exact ⟨rfl, ⟨rfl⟩⟩
        refine ⟨fun hf _ => ?_, ?_⟩
        ·obtain ⟨hq0, -⟩ := hf
         obtain rfl : x2 = _ := hq0
         refine .inl ⟨by rfl, ?_⟩
         simp only [Reg.ung]
         go_wp2
         first | exact ⟨_, rfl, hG, ⟨rfl⟩, rfl⟩ | exact ⟨rfl, hG, ⟨rfl⟩, rfl⟩ | exact ⟨rfl, hG, ⟨rfl⟩⟩ | exact ⟨rfl, ⟨rfl⟩⟩
        refine ⟨fun hf _ => ?_, ?_⟩
        ·obtain ⟨hq0, -⟩ := hf
         obtain rfl : x3 = _ := hq0
         refine .inl ⟨by rfl, ?_⟩
         simp only [Reg.ung]
         go_wp2
         first | exact ⟨_, rfl, hG, ⟨rfl⟩, rfl⟩ | exact ⟨rfl, hG, ⟨rfl⟩, rfl⟩ | exact ⟨rfl, hG, ⟨rfl⟩⟩ | exact ⟨rfl, ⟨rfl⟩⟩
        refine ⟨fun hf _ => ?_, ?_⟩
        ·obtain ⟨hq0, -⟩ := hf
         obtain rfl : x4 = _ := hq0
         refine .inl ⟨by rfl, ?_⟩
         simp only [Reg.ung]
         go_wp2
         first | exact ⟨_, rfl, hG, ⟨rfl⟩, rfl⟩ | exact ⟨rfl, hG, ⟨rfl⟩, rfl⟩ | exact ⟨rfl, hG, ⟨rfl⟩⟩ | exact ⟨rfl, ⟨rfl⟩⟩
        refine ⟨fun hf _ => ?_, ?_⟩
        ·obtain ⟨hq0, -⟩ := hf
         obtain rfl : x5 = _ := hq0
         exact .inr ⟨by rfl, rfl⟩
        refine ⟨fun hf _ => ?_, ?_⟩
        ·obtain ⟨hq0, -⟩ := hf
         obtain rfl : x5 = _ := hq0
         exact .inr ⟨by rfl, rfl⟩
        refine ⟨fun hf _ => ?_, ?_⟩
        ·obtain ⟨hq0, hq1, -⟩ := hf
         obtain rfl : x7 = _ := hq0
         obtain rfl : x5 = _ := hq1
         exact .inr ⟨by rfl, rfl⟩
        refine ⟨fun hf _ => ?_, ?_⟩
        ·obtain ⟨hq0, hq1, -⟩ := hf
         obtain rfl : x8 = _ := hq0
         obtain rfl : x5 = _ := hq1
         exact .inr ⟨by rfl, rfl⟩
        refine ⟨fun hf _ => ?_, ?_⟩
        ·obtain ⟨hq0, -⟩ := hf
         obtain rfl : x5 = _ := hq0
         exact .inr ⟨by rfl, rfl⟩
        refine ⟨fun hf _ => ?_, ?_⟩
        ·obtain ⟨hq0, hq1, -⟩ := hf
         obtain rfl : x10 = _ := hq0
         obtain rfl : x5 = _ := hq1
         exact .inr ⟨by rfl, rfl⟩
        refine ⟨fun hf _ => ?_, ?_⟩
        ·obtain ⟨hq0, hq1, -⟩ := hf
         obtain rfl : x11 = _ := hq0
         obtain rfl : x5 = _ := hq1
         exact .inr ⟨by rfl, rfl⟩
        refine ⟨fun hf _ => ?_, ?_⟩
        ·obtain ⟨hq0, -⟩ := hf
         obtain rfl : x5 = _ := hq0
         exact .inr ⟨by rfl, rfl⟩
        refine ⟨fun hf _ => ?_, ?_⟩
        ·obtain ⟨hq0, hq1, hq2, hq3, hq4, -, -⟩ := hf
         obtain rfl : x6 = _ := hq0
         obtain rfl : x9 = _ := hq1
         obtain rfl : x12 = _ := hq2
         obtain rfl : x13 = _ := hq3
         obtain rfl : x5 = _ := hq4
         exact .inr ⟨by rfl, rfl⟩
        refine ⟨fun hf _ => ?_, ?_⟩
        ·obtain ⟨hq0, hq1, -⟩ := hf
         obtain rfl : x14 = _ := hq0
         obtain rfl : x5 = _ := hq1
         exact .inr ⟨by rfl, rfl⟩
        refine ⟨fun hf _ => ?_, ?_⟩
        ·obtain ⟨hq0, hq1, -⟩ := hf
         obtain rfl : x5 = _ := hq0
         obtain rfl : x15 = _ := hq1
         refine .inl ⟨by rfl, ?_⟩
         simp only [Reg.ung]
         go_wp2
         first | exact ⟨_, rfl, hG, ⟨rfl⟩, rfl⟩ | exact ⟨rfl, hG, ⟨rfl⟩, rfl⟩ | exact ⟨rfl, hG, ⟨rfl⟩⟩ | exact ⟨rfl, ⟨rfl⟩⟩
        exact trivial
       case he =>
        intro xs hl0_ wr hG hf
        obtain ⟨x0, xs1, rfl, hl1⟩ := Reg.len_succ hl0_
        obtain ⟨x1, xs2, rfl, hl2⟩ := Reg.len_succ hl1
        obtain ⟨x2, xs3, rfl, hl3⟩ := Reg.len_succ hl2
        obtain ⟨x3, xs4, rfl, hl4⟩ := Reg.len_succ hl3
        obtain ⟨x4, xs5, rfl, hl5⟩ := Reg.len_succ hl4
        obtain ⟨x5, xs6, rfl, hl6⟩ := Reg.len_succ hl5
        obtain ⟨x6, xs7, rfl, hl7⟩ := Reg.len_succ hl6
        obtain ⟨x7, xs8, rfl, hl8⟩ := Reg.len_succ hl7
        obtain ⟨x8, xs9, rfl, hl9⟩ := Reg.len_succ hl8
        obtain ⟨x9, xs10, rfl, hl10⟩ := Reg.len_succ hl9
        obtain ⟨x10, xs11, rfl, hl11⟩ := Reg.len_succ hl10
        obtain ⟨x11, xs12, rfl, hl12⟩ := Reg.len_succ hl11
        obtain ⟨x12, xs13, rfl, hl13⟩ := Reg.len_succ hl12
        obtain ⟨x13, xs14, rfl, hl14⟩ := Reg.len_succ hl13
        obtain ⟨x14, xs15, rfl, hl15⟩ := Reg.len_succ hl14
        obtain ⟨x15, xs16, rfl, hl16⟩ := Reg.len_succ hl15
        obtain ⟨x16, xs17, rfl, hl17⟩ := Reg.len_succ hl16
        obtain rfl := List.eq_nil_of_length_eq_zero hl17
        clear hl0_ hl1 hl2 hl3 hl4 hl5 hl6 hl7 hl8 hl9 hl10 hl11 hl12 hl13 hl14 hl15 hl16 hl17
        obtain ⟨hq0, hq1, hq2, hq3, hq4, hq5, hq6, hq7, hq8, hq9, hq10, hq11, hq12, hq13, hq14, hq15, hq16, -⟩ := hf
        obtain rfl : x0 = _ := hq0
        obtain rfl : x1 = _ := hq1
        obtain rfl : x2 = _ := hq2
        obtain rfl : x3 = _ := hq3
        obtain rfl : x4 = _ := hq4
        obtain rfl : x5 = _ := hq5
        obtain rfl : x6 = _ := hq6
        obtain rfl : x7 = _ := hq7
        obtain rfl : x8 = _ := hq8
        obtain rfl : x9 = _ := hq9
        obtain rfl : x10 = _ := hq10
        obtain rfl : x11 = _ := hq11
        obtain rfl : x12 = _ := hq12
        obtain rfl : x13 = _ := hq13
        obtain rfl : x14 = _ := hq14
        obtain rfl : x15 = _ := hq15
        obtain rfl : x16 = _ := hq16
        simp only [Reg.putL, Act.put, List.setIfInBounds_toArray, List.set_cons_succ, List.set_cons_zero]
        obtain rfl := hG.out
        clear CV C7
        go_wp2_with (fail)
        go_roundg k1
        case measure => omega
        case rel => exact ⟨4, by first | rfl | simp, ⟨by omega⟩, HBQ, HR⟩
      ·rw [if_neg h0] at hr
       have hp : 0 < n4 := by omega
       have d1 : decide ((n4 : Int) > 0) = true := decide_eq_true (by omega)
       have d2 : decide ((0 : Int) < (n4 : Int)) = true := d1
       have d3 : decide (0 < n4) = true := decide_eq_true hp
       have HIN := Aside0.mk (show ∀ W, Below wD.heap.size wD W → Calls Tryd.prog 33 #[.int .i64 3, .slice A4 n4 c4, .int .i64 y, .int .i64 lg] W _ from fun W hW => in_any A4 c4 n4 l4 3 y lg W H4.out.1 (Kd.C_below (Kd.C_below H4.out.2 HBW.out) hW))
       obtain ⟨b, hb⟩ : ∃ b, b = l4.any (inB 3 lg y) := ⟨_, rfl⟩
       rw [← hb] at hr HIN
       clear hb
       go_wp2_with (fail)
       refine Reg.region_list hmix [some 35, some 36, some 37, some 38, some 39, some 40, some 41, some 42, some 43, some 44, some 45, some 46, some 47, some 48, some 49, some 50, some 51] [[], [0], [1], [2], [3], [4], [5], [5], [7, 5], [8, 5], [5], [10, 5], [11, 5], [5], [6, 9, 12, 13, 5, 5], [14, 5], [5, 15]] (fun w => Below wD.heap.size wD w) (fun w w' => Below w.heap.size w w') [(fun v w => v = (.pointer (some ⟨bv, 4, none⟩) : Value)), (fun v w => v = (.pointer (some ⟨bv, 4, none⟩) : Value)), (fun v w => v = (.slice A4 n4 c4 : Value)), (fun v w => v = (.int .i64 (n4 : Int) : Value)), (fun v w => v = (.bool true : Value)), (fun v w => v = (.bool true : Value)), (fun v w => v = (.int .i64 3 : Value)), (fun v w => v = (.pointer (some ⟨bv, 4, none⟩) : Value)), (fun v w => v = (.pointer (some ⟨bv, 4, none⟩) : Value)), (fun v w => v = (.slice A4 n4 c4 : Value)), (fun v w => v = (.int .i64 3 : Value)), (fun v w => v = (.pointer (some ⟨b7, 3, none⟩) : Value)), (fun v w => v = (.int .i64 y : Value)), (fun v w => v = (.int .i64 lg : Value)), (fun v w => v = (.bool b : Value)), (fun v w => v = (.bool (!b) : Value)), (fun v w => v = (.bool (!b) : Value))] rfl (by kernel_rfl) (by kernel_rfl) (fun w => Below.refl w.heap.size w) (fun _ _ hr => Reg.mono_cons (fun _ h => h) (Reg.mono_cons (fun _ h => h) (Reg.mono_cons (fun _ h => h) (Reg.mono_cons (fun _ h => h) (Reg.mono_cons (fun _ h => h) (Reg.mono_cons (fun _ h => h) (Reg.mono_cons (fun _ h => h) (Reg.mono_cons (fun _ h => h) (Reg.mono_cons (fun _ h => h) (Reg.mono_cons (fun _ h => h) (Reg.mono_cons (fun _ h => h) (Reg.mono_cons (fun _ h => h) (Reg.mono_cons (fun _ h => h) (Reg.mono_cons (fun _ h => h) (Reg.mono_cons (fun _ h => h) (Reg.mono_cons (fun _ h => h) (Reg.mono_cons (fun _ h => h) (Reg.mono_nil)))))))))))))))))) (by rw [← HWD.out]; exact Below.refl _ _) ?hs ?he
       case hs =>
        intro xs0 xs hx0 hl0_ wr hG
        clear hx0
        obtain ⟨x0, xs1, rfl, hl1⟩ := Reg.len_succ hl0_
        obtain ⟨x1, xs2, rfl, hl2⟩ := Reg.len_succ hl1
        obtain ⟨x2, xs3, rfl, hl3⟩ := Reg.len_succ hl2
        obtain ⟨x3, xs4, rfl, hl4⟩ := Reg.len_succ hl3
        obtain ⟨x4, xs5, rfl, hl5⟩ := Reg.len_succ hl4
        obtain ⟨x5, xs6, rfl, hl6⟩ := Reg.len_succ hl5
        obtain ⟨x6, xs7, rfl, hl7⟩ := Reg.len_succ hl6
        obtain ⟨x7, xs8, rfl, hl8⟩ := Reg.len_succ hl7
        obtain ⟨x8, xs9, rfl, hl9⟩ := Reg.len_succ hl8
        obtain ⟨x9, xs10, rfl, hl10⟩ := Reg.len_succ hl9
        obtain ⟨x10, xs11, rfl, hl11⟩ := Reg.len_succ hl10
        obtain ⟨x11, xs12, rfl, hl12⟩ := Reg.len_succ hl11
        obtain ⟨x12, xs13, rfl, hl13⟩ := Reg.len_succ hl12
        obtain ⟨x13, xs14, rfl, hl14⟩ := Reg.len_succ hl13
        obtain ⟨x14, xs15, rfl, hl15⟩ := Reg.len_succ hl14
        obtain ⟨x15, xs16, rfl, hl16⟩ := Reg.len_succ hl15
        obtain ⟨x16, xs17, rfl, hl17⟩ := Reg.len_succ hl16
        obtain rfl := List.eq_nil_of_length_eq_zero hl17
        clear hl0_ hl1 hl2 hl3 hl4 hl5 hl6 hl7 hl8 hl9 hl10 hl11 hl12 hl13 hl14 hl15 hl16 hl17
        simp only [Reg.putL, Act.put, List.setIfInBounds_toArray, List.set_cons_succ, List.set_cons_zero]
        have cv := (hG.cell (World.block_lt_of_cell? wD _ CV)).trans CV; have c7 := (hG.cell (World.block_lt_of_cell? wD _ C7)).trans C7
        refine ⟨fun hf _ => ?_, ?_⟩
        ·clear hf
         refine .inl ⟨by rfl, ?_⟩
         simp only [Reg.ung]
         go_wp2
         exact ⟨_, rfl, hG, (fun w => Below.refl w.heap.size w) _, rfl⟩
        refine ⟨fun hf _ => ?_, ?_⟩
        ·obtain ⟨hq0, -⟩ := hf
         obtain rfl : x0 = _ := hq0
         refine .inl ⟨by rfl, ?_⟩
         simp only [Reg.ung]
         go_wp2
         exact ⟨_, rfl, hG, (fun w => Below.refl w.heap.size w) _, rfl⟩
        refine ⟨fun hf _ => ?_, ?_⟩
        ·obtain ⟨hq0, -⟩ := hf
         obtain rfl : x1 = _ := hq0
         refine .inl ⟨by rfl, ?_⟩
         simp only [Reg.ung]
         go_wp2
         exact ⟨_, rfl, hG, (fun w => Below.refl w.heap.size w) _, rfl⟩
        refine ⟨fun hf _ => ?_, ?_⟩
        ·obtain ⟨hq0, -⟩ := hf
         obtain rfl : x2 = _ := hq0
         refine .inl ⟨by rfl, ?_⟩
         simp only [Reg.ung]
         go_wp2
         exact ⟨_, rfl, hG, (fun w => Below.refl w.heap.size w) _, rfl⟩
        refine ⟨fun hf _ => ?_, ?_⟩
        ·obtain ⟨hq0, -⟩ := hf
         obtain rfl : x3 = _ := hq0
         refine .inl ⟨by rfl, ?_⟩
         simp only [Reg.ung]
         go_wp2
         exact ⟨_, rfl, hG, (fun w => Below.refl w.heap.size w) _, rfl⟩
        refine ⟨fun hf _ => ?_, ?_⟩
        ·obtain ⟨hq0, -⟩ := hf
         obtain rfl : x4 = _ := hq0
         refine .inl ⟨by rfl, ?_⟩
         simp only [Reg.ung]
         go_wp2
         exact ⟨_, rfl, hG, (fun w => Below.refl w.heap.size w) _, rfl⟩
        refine ⟨fun hf _ => ?_, ?_⟩
        ·obtain ⟨hq0, -⟩ := hf
         obtain rfl : x5 = _ := hq0
         refine .inl ⟨by rfl, ?_⟩
         simp only [Reg.ung]
         go_wp2
         exact ⟨_, rfl, hG, (fun w => Below.refl w.heap.size w) _, rfl⟩
        refine ⟨fun hf _ => ?_, ?_⟩
        ·obtain ⟨hq0, -⟩ := hf
         obtain rfl : x5 = _ := hq0
         refine .inl ⟨by rfl, ?_⟩
         simp only [Reg.ung]
         go_wp2
         exact ⟨_, rfl, hG, (fun w => Below.refl w.heap.size w) _, rfl⟩
        refine ⟨fun hf _ => ?_, ?_⟩
        ·obtain ⟨hq0, hq1, -⟩ := hf
         obtain rfl : x7 = _ := hq0
         obtain rfl : x5 = _ := hq1
         refine .inl ⟨by rfl, ?_⟩
         simp only [Reg.ung]
         go_wp2
         exact ⟨_, rfl, hG, (fun w => Below.refl w.heap.size w) _, rfl⟩
        refine ⟨fun hf _ => ?_, ?_⟩
        ·obtain ⟨hq0, hq1, -⟩ := hf
         obtain rfl : x8 = _ := hq0
         obtain rfl : x5 = _ := hq1
         refine .inl ⟨by rfl, ?_⟩
         simp only [Reg.ung]
         go_wp2
         exact ⟨_, rfl, hG, (fun w => Below.refl w.heap.size w) _, rfl⟩
        refine ⟨fun hf _ => ?_, ?_⟩
        ·obtain ⟨hq0, -⟩ := hf
         obtain rfl : x5 = _ := hq0
         refine .inl ⟨by rfl, ?_⟩
         simp only [Reg.ung]
         go_wp2
         exact ⟨_, rfl, hG, (fun w => Below.refl w.heap.size w) _, rfl⟩
        refine ⟨fun hf _ => ?_, ?_⟩
        ·obtain ⟨hq0, hq1, -⟩ := hf
         obtain rfl : x10 = _ := hq0
         obtain rfl : x5 = _ := hq1
         refine .inl ⟨by rfl, ?_⟩
         simp only [Reg.ung]
         go_wp2
         exact ⟨_, rfl, hG, (fun w => Below.refl w.heap.size w) _, rfl⟩
        refine ⟨fun hf _ => ?_, ?_⟩
        ·obtain ⟨hq0, hq1, -⟩ := hf
         obtain rfl : x11 = _ := hq0
         obtain rfl : x5 = _ := hq1
         refine .inl ⟨by rfl, ?_⟩
         simp only [Reg.ung]
         go_wp2
         exact ⟨_, rfl, hG, (fun w => Below.refl w.heap.size w) _, rfl⟩
        refine ⟨fun hf _ => ?_, ?_⟩
        ·obtain ⟨hq0, -⟩ := hf
         obtain rfl : x5 = _ := hq0
         refine .inl ⟨by rfl, ?_⟩
         simp only [Reg.ung]
         go_wp2
         exact ⟨_, rfl, hG, (fun w => Below.refl w.heap.size w) _, rfl⟩
        refine ⟨fun hf _ => ?_, ?_⟩
        ·obtain ⟨hq0, hq1, hq2, hq3, hq4, -, -⟩ := hf
         obtain rfl : x6 = _ := hq0
         obtain rfl : x9 = _ := hq1
         obtain rfl : x12 = _ := hq2
         obtain rfl : x13 = _ := hq3
         obtain rfl : x5 = _ := hq4
         refine .inl ⟨by rfl, ?_⟩
         simp only [Reg.ung]
         go_wp2_with ((go_at_call 33; refine (HIN.out _ hG).mono ?_; rintro e w5 ⟨rfl, hb⟩)); exact ⟨_, rfl, below_then hG hG.size hb, hb, rfl⟩
        refine ⟨fun hf _ => ?_, ?_⟩
        ·obtain ⟨hq0, hq1, -⟩ := hf
         obtain rfl : x14 = _ := hq0
         obtain rfl : x5 = _ := hq1
         refine .inl ⟨by rfl, ?_⟩
         simp only [Reg.ung]
         go_wp2
         exact ⟨_, rfl, hG, (fun w => Below.refl w.heap.size w) _, rfl⟩
        refine ⟨fun hf _ => ?_, ?_⟩
        ·obtain ⟨hq0, hq1, -⟩ := hf
         obtain rfl : x5 = _ := hq0
         obtain rfl : x15 = _ := hq1
         refine .inl ⟨by rfl, ?_⟩
         simp only [Reg.ung]
         go_wp2
         exact ⟨_, rfl, hG, (fun w => Below.refl w.heap.size w) _, rfl⟩
        exact trivial
       case he =>
        intro xs hl0_ wr hG hf
        obtain ⟨x0, xs1, rfl, hl1⟩ := Reg.len_succ hl0_
        obtain ⟨x1, xs2, rfl, hl2⟩ := Reg.len_succ hl1
        obtain ⟨x2, xs3, rfl, hl3⟩ := Reg.len_succ hl2
        obtain ⟨x3, xs4, rfl, hl4⟩ := Reg.len_succ hl3
        obtain ⟨x4, xs5, rfl, hl5⟩ := Reg.len_succ hl4
        obtain ⟨x5, xs6, rfl, hl6⟩ := Reg.len_succ hl5
        obtain ⟨x6, xs7, rfl, hl7⟩ := Reg.len_succ hl6
        obtain ⟨x7, xs8, rfl, hl8⟩ := Reg.len_succ hl7
        obtain ⟨x8, xs9, rfl, hl9⟩ := Reg.len_succ hl8
        obtain ⟨x9, xs10, rfl, hl10⟩ := Reg.len_succ hl9
        obtain ⟨x10, xs11, rfl, hl11⟩ := Reg.len_succ hl10
        obtain ⟨x11, xs12, rfl, hl12⟩ := Reg.len_succ hl11
        obtain ⟨x12, xs13, rfl, hl13⟩ := Reg.len_succ hl12
        obtain ⟨x13, xs14, rfl, hl14⟩ := Reg.len_succ hl13
        obtain ⟨x14, xs15, rfl, hl15⟩ := Reg.len_succ hl14
        obtain ⟨x15, xs16, rfl, hl16⟩ := Reg.len_succ hl15
        obtain ⟨x16, xs17, rfl, hl17⟩ := Reg.len_succ hl16
        obtain rfl := List.eq_nil_of_length_eq_zero hl17
        clear hl0_ hl1 hl2 hl3 hl4 hl5 hl6 hl7 hl8 hl9 hl10 hl11 hl12 hl13 hl14 hl15 hl16 hl17
        obtain ⟨hq0, hq1, hq2, hq3, hq4, hq5, hq6, hq7, hq8, hq9, hq10, hq11, hq12, hq13, hq14, hq15, hq16, -⟩ := hf
        obtain rfl : x0 = _ := hq0
        obtain rfl : x1 = _ := hq1
        obtain rfl : x2 = _ := hq2
        obtain rfl : x3 = _ := hq3
        obtain rfl : x4 = _ := hq4
        obtain rfl : x5 = _ := hq5
        obtain rfl : x6 = _ := hq6
        obtain rfl : x7 = _ := hq7
        obtain rfl : x8 = _ := hq8
        obtain rfl : x9 = _ := hq9
        obtain rfl : x10 = _ := hq10
        obtain rfl : x11 = _ := hq11
        obtain rfl : x12 = _ := hq12
        obtain rfl : x13 = _ := hq13
        obtain rfl : x14 = _ := hq14
        obtain rfl : x15 = _ := hq15
        obtain rfl : x16 = _ := hq16
        simp only [Reg.putL, Act.put, List.setIfInBounds_toArray, List.set_cons_succ, List.set_cons_zero]
        have HE := Aside0.mk (below_then HBQ.out HBQ.out.size hG)
        clear CV C7 hG HIN
        cases b with
        | true =>
         rw [if_pos rfl] at hr
         have HR := Aside0.mk hr
         clear hr
         go_wp2_with (fail)
         go_roundg k1
         case measure => omega
         case rel => exact ⟨4, by first | rfl | simp, ⟨by omega⟩, HE, HR⟩
        | false =>
         rw [if_neg (fun h => by cases h)] at hr
         subst hr
         go_wp2_with (fail)
         go_ret
         exact ⟨rfl, below_then HB4.out HB4.out.size HE.out⟩
    ·cases gk with
     | zero => exact absurd hjk (by omega)
     | succ k1 =>
      have hr : (if l5.length = 0 then atL (5 : Nat) ([(l1, wd), (l2, m), (l3, dy), (l4, y), (l5, mi)].drop 5) lg else if l5.any (inB 4 lg mi) = true then atL (5 : Nat) ([(l1, wd), (l2, m), (l3, dy), (l4, y), (l5, mi)].drop 5) lg else false) = r := HR.out
      rw [← H5.out.1] at hr
      obtain ⟨wD, hwd⟩ : ∃ wD, wD = wr.drew := ⟨_, rfl⟩
      have HWD := Aside0.mk hwd
      have HBQ := Aside0.mk (show Below w3.heap.size w3 wD by rw [hwd]; exact HB.out.drew)
      have HBW := Aside0.mk (below_then HB4.out HB4.out.size HBQ.out)
      have CV := (blk_cell ((HBW.out.block _ hlv).trans HBV.out) 5).trans rfl
      have C7 := (blk_cell ((HBQ.out.block _ (blk_lt HB74.out)).trans HB74.out) 4).trans rfl
      clear hwd HR
      by_cases h0 : n5 = 0
      ·rw [if_pos h0] at hr
       have HR := Aside0.mk hr
       have HH := H5
       clear hr H5
       subst h0
       obtain ⟨wd_, hwd_⟩ : ∃ wd_, wd_ = wD := ⟨_, rfl⟩
       go_wp2_with (fail)
       refine Reg.region_list hmix [some 35, some 36, some 37, some 38, some 39, some 40, some 41, some 42, some 43, some 44, some 45, some 46, some 47, some 48, some 49, some 50, some 51] [[], [0], [1], [2], [3], [4], [5], [5], [7, 5], [8, 5], [5], [10, 5], [11, 5], [5], [6, 9, 12, 13, 5, 5], [14, 5], [5, 15]] (fun w => Aside0 (w = wD)) (fun w w' => Aside0 (w' = w)) [(fun v w => v = (.pointer (some ⟨bv, 5, none⟩) : Value)), (fun v w => v = (.pointer (some ⟨bv, 5, none⟩) : Value)), (fun v w => v = (.slice A5 0 c5 : Value)), (fun v w => v = (.int .i64 0 : Value)), (fun v w => v = (.bool false : Value)), (fun v w => v = (.bool false : Value)), (fun v w => v = (undef : Value)), (fun v w => v = (undef : Value)), (fun v w => v = (undef : Value)), (fun v w => v = (undef : Value)), (fun v w => v = (undef : Value)), (fun v w => v = (undef : Value)), (fun v w => v = (undef : Value)), (fun v w => v = (undef : Value)), (fun v w => v = (undef : Value)), (fun v w => v = (undef : Value)), (fun v w => v = (.bool false : Value))] rfl (by kernel_rfl) (by kernel_rfl) (fun _ => ⟨rfl⟩) (fun _ _ hr => Reg.mono_cons (fun _ h => h) (Reg.mono_cons (fun _ h => h) (Reg.mono_cons (fun _ h => h) (Reg.mono_cons (fun _ h => h) (Reg.mono_cons (fun _ h => h) (Reg.mono_cons (fun _ h => h) (Reg.mono_cons (fun _ h => h) (Reg.mono_cons (fun _ h => h) (Reg.mono_cons (fun _ h => h) (Reg.mono_cons (fun _ h => h) (Reg.mono_cons (fun _ h => h) (Reg.mono_cons (fun _ h => h) (Reg.mono_cons (fun _ h => h) (Reg.mono_cons (fun _ h => h) (Reg.mono_cons (fun _ h => h) (Reg.mono_cons (fun _ h => h) (Reg.mono_cons (fun _ h => h) (Reg.mono_nil)))))))))))))))))) (⟨HWD.out.symm⟩) ?hs ?he
       case hs =>
        intro xs0 xs hx0 hl0_ wr hG
        clear hx0
        obtain ⟨x0, xs1, rfl, hl1⟩ := Reg.len_succ hl0_
        obtain ⟨x1, xs2, rfl, hl2⟩ := Reg.len_succ hl1
        obtain ⟨x2, xs3, rfl, hl3⟩ := Reg.len_succ hl2
        obtain ⟨x3, xs4, rfl, hl4⟩ := Reg.len_succ hl3
        obtain ⟨x4, xs5, rfl, hl5⟩ := Reg.len_succ hl4
        obtain ⟨x5, xs6, rfl, hl6⟩ := Reg.len_succ hl5
        obtain ⟨x6, xs7, rfl, hl7⟩ := Reg.len_succ hl6
        obtain ⟨x7, xs8, rfl, hl8⟩ := Reg.len_succ hl7
        obtain ⟨x8, xs9, rfl, hl9⟩ := Reg.len_succ hl8
        obtain ⟨x9, xs10, rfl, hl10⟩ := Reg.len_succ hl9
        obtain ⟨x10, xs11, rfl, hl11⟩ := Reg.len_succ hl10
        obtain ⟨x11, xs12, rfl, hl12⟩ := Reg.len_succ hl11
        obtain ⟨x12, xs13, rfl, hl13⟩ := Reg.len_succ hl12
        obtain ⟨x13, xs14, rfl, hl14⟩ := Reg.len_succ hl13
        obtain ⟨x14, xs15, rfl, hl15⟩ := Reg.len_succ hl14
        obtain ⟨x15, xs16, rfl, hl16⟩ := Reg.len_succ hl15
        obtain ⟨x16, xs17, rfl, hl17⟩ := Reg.len_succ hl16
        obtain rfl := List.eq_nil_of_length_eq_zero hl17
        clear hl0_ hl1 hl2 hl3 hl4 hl5 hl6 hl7 hl8 hl9 hl10 hl11 hl12 hl13 hl14 hl15 hl16 hl17
        simp only [Reg.putL, Act.put, List.setIfInBounds_toArray, List.set_cons_succ, List.set_cons_zero]
        obtain rfl := hG.out
        refine ⟨fun hf _ => ?_, ?_⟩
        ·clear hf
         refine .inl ⟨by rfl, ?_⟩
         simp only [Reg.ung]
         go_wp2
         first | exact ⟨_, rfl, hG, ⟨rfl⟩, rfl⟩ | exact ⟨rfl, hG, ⟨rfl⟩, rfl⟩ | exact ⟨rfl, hG, ⟨rfl⟩⟩ | exact ⟨rfl, ⟨rfl⟩⟩
        refine ⟨fun hf _ => ?_, ?_⟩
        ·obtain ⟨hq0, -⟩ := hf
         obtain rfl : x0 = _ := hq0
         refine .inl ⟨by rfl, ?_⟩
         simp only [Reg.ung]
         go_wp2
         first | exact ⟨_, rfl, hG, ⟨rfl⟩, rfl⟩ | exact ⟨rfl, hG, ⟨rfl⟩, rfl⟩ | exact ⟨rfl, hG, ⟨rfl⟩⟩ | exact ⟨rfl, ⟨rfl⟩⟩
        refine ⟨fun hf _ => ?_, ?_⟩
        ·obtain ⟨hq0, -⟩ := hf
         obtain rfl : x1 = _ := hq0
         refine .inl ⟨by rfl, ?_⟩
         simp only [Reg.ung]
         go_wp2
         first | exact ⟨_, rfl, hG, ⟨rfl⟩, rfl⟩ | exact ⟨rfl, hG, ⟨rfl⟩, rfl⟩ | exact ⟨rfl, hG, ⟨rfl⟩⟩ | exact ⟨rfl, ⟨rfl⟩⟩
        refine ⟨fun hf _ => ?_, ?_⟩
        ·obtain ⟨hq0, -⟩ := hf
         obtain rfl : x2 = _ := hq0
         refine .inl ⟨by rfl, ?_⟩
         simp only [Reg.ung]
         go_wp2
         first | exact ⟨_, rfl, hG, ⟨rfl⟩, rfl⟩ | exact ⟨rfl, hG, ⟨rfl⟩, rfl⟩ | exact ⟨rfl, hG, ⟨rfl⟩⟩ | exact ⟨rfl, ⟨rfl⟩⟩
        refine ⟨fun hf _ => ?_, ?_⟩
        ·obtain ⟨hq0, -⟩ := hf
         obtain rfl : x3 = _ := hq0
         refine .inl ⟨by rfl, ?_⟩
         simp only [Reg.ung]
         go_wp2
         first | exact ⟨_, rfl, hG, ⟨rfl⟩, rfl⟩ | exact ⟨rfl, hG, ⟨rfl⟩, rfl⟩ | exact ⟨rfl, hG, ⟨rfl⟩⟩ | exact ⟨rfl, ⟨rfl⟩⟩
        refine ⟨fun hf _ => ?_, ?_⟩
        ·obtain ⟨hq0, -⟩ := hf
         obtain rfl : x4 = _ := hq0
         refine .inl ⟨by rfl, ?_⟩
         simp only [Reg.ung]
         go_wp2
         first | exact ⟨_, rfl, hG, ⟨rfl⟩, rfl⟩ | exact ⟨rfl, hG, ⟨rfl⟩, rfl⟩ | exact ⟨rfl, hG, ⟨rfl⟩⟩ | exact ⟨rfl, ⟨rfl⟩⟩
        refine ⟨fun hf _ => ?_, ?_⟩
        ·obtain ⟨hq0, -⟩ := hf
         obtain rfl : x5 = _ := hq0
         exact .inr ⟨by rfl, rfl⟩
        refine ⟨fun hf _ => ?_, ?_⟩
        ·obtain ⟨hq0, -⟩ := hf
         obtain rfl : x5 = _ := hq0
         exact .inr ⟨by rfl, rfl⟩
        refine ⟨fun hf _ => ?_, ?_⟩
        ·obtain ⟨hq0, hq1, -⟩ := hf
         obtain rfl : x7 = _ := hq0
         obtain rfl : x5 = _ := hq1
         exact .inr ⟨by rfl, rfl⟩
        refine ⟨fun hf _ => ?_, ?_⟩
        ·obtain ⟨hq0, hq1, -⟩ := hf
         obtain rfl : x8 = _ := hq0
         obtain rfl : x5 = _ := hq1
         exact .inr ⟨by rfl, rfl⟩
        refine ⟨fun hf _ => ?_, ?_⟩
        ·obtain ⟨hq0, -⟩ := hf
         obtain rfl : x5 = _ := hq0
         exact .inr ⟨by rfl, rfl⟩
        refine ⟨fun hf _ => ?_, ?_⟩
        ·obtain ⟨hq0, hq1, -⟩ := hf
         obtain rfl : x10 = _ := hq0
         obtain rfl : x5 = _ := hq1
         exact .inr ⟨by rfl, rfl⟩
        refine ⟨fun hf _ => ?_, ?_⟩
        ·obtain ⟨hq0, hq1, -⟩ := hf
         obtain rfl : x11 = _ := hq0
         obtain rfl : x5 = _ := hq1
         exact .inr ⟨by rfl, rfl⟩
        refine ⟨fun hf _ => ?_, ?_⟩
        ·obtain ⟨hq0, -⟩ := hf
         obtain rfl : x5 = _ := hq0
         exact .inr ⟨by rfl, rfl⟩
        refine ⟨fun hf _ => ?_, ?_⟩
        ·obtain ⟨hq0, hq1, hq2, hq3, hq4, -, -⟩ := hf
         obtain rfl : x6 = _ := hq0
         obtain rfl : x9 = _ := hq1
         obtain rfl : x12 = _ := hq2
         obtain rfl : x13 = _ := hq3
         obtain rfl : x5 = _ := hq4
         exact .inr ⟨by rfl, rfl⟩
        refine ⟨fun hf _ => ?_, ?_⟩
        ·obtain ⟨hq0, hq1, -⟩ := hf
         obtain rfl : x14 = _ := hq0
         obtain rfl : x5 = _ := hq1
         exact .inr ⟨by rfl, rfl⟩
        refine ⟨fun hf _ => ?_, ?_⟩
        ·obtain ⟨hq0, hq1, -⟩ := hf
         obtain rfl : x5 = _ := hq0
         obtain rfl : x15 = _ := hq1
         refine .inl ⟨by rfl, ?_⟩
         simp only [Reg.ung]
         go_wp2
         first | exact ⟨_, rfl, hG, ⟨rfl⟩, rfl⟩ | exact ⟨rfl, hG, ⟨rfl⟩, rfl⟩ | exact ⟨rfl, hG, ⟨rfl⟩⟩ | exact ⟨rfl, ⟨rfl⟩⟩
        exact trivial
       case he =>
        intro xs hl0_ wr hG hf
        obtain ⟨x0, xs1, rfl, hl1⟩ := Reg.len_succ hl0_
        obtain ⟨x1, xs2, rfl, hl2⟩ := Reg.len_succ hl1
        obtain ⟨x2, xs3, rfl, hl3⟩ := Reg.len_succ hl2
        obtain ⟨x3, xs4, rfl, hl4⟩ := Reg.len_succ hl3
        obtain ⟨x4, xs5, rfl, hl5⟩ := Reg.len_succ hl4
        obtain ⟨x5, xs6, rfl, hl6⟩ := Reg.len_succ hl5
        obtain ⟨x6, xs7, rfl, hl7⟩ := Reg.len_succ hl6
        obtain ⟨x7, xs8, rfl, hl8⟩ := Reg.len_succ hl7
        obtain ⟨x8, xs9, rfl, hl9⟩ := Reg.len_succ hl8
        obtain ⟨x9, xs10, rfl, hl10⟩ := Reg.len_succ hl9
        obtain ⟨x10, xs11, rfl, hl11⟩ := Reg.len_succ hl10
        obtain ⟨x11, xs12, rfl, hl12⟩ := Reg.len_succ hl11
        obtain ⟨x12, xs13, rfl, hl13⟩ := Reg.len_succ hl12
        obtain ⟨x13, xs14, rfl, hl14⟩ := Reg.len_succ hl13
        obtain ⟨x14, xs15, rfl, hl15⟩ := Reg.len_succ hl14
        obtain ⟨x15, xs16, rfl, hl16⟩ := Reg.len_succ hl15
        obtain ⟨x16, xs17, rfl, hl17⟩ := Reg.len_succ hl16
        obtain rfl := List.eq_nil_of_length_eq_zero hl17
        clear hl0_ hl1 hl2 hl3 hl4 hl5 hl6 hl7 hl8 hl9 hl10 hl11 hl12 hl13 hl14 hl15 hl16 hl17
        obtain ⟨hq0, hq1, hq2, hq3, hq4, hq5, hq6, hq7, hq8, hq9, hq10, hq11, hq12, hq13, hq14, hq15, hq16, -⟩ := hf
        obtain rfl : x0 = _ := hq0
        obtain rfl : x1 = _ := hq1
        obtain rfl : x2 = _ := hq2
        obtain rfl : x3 = _ := hq3
        obtain rfl : x4 = _ := hq4
        obtain rfl : x5 = _ := hq5
        obtain rfl : x6 = _ := hq6
        obtain rfl : x7 = _ := hq7
        obtain rfl : x8 = _ := hq8
        obtain rfl : x9 = _ := hq9
        obtain rfl : x10 = _ := hq10
        obtain rfl : x11 = _ := hq11
        obtain rfl : x12 = _ := hq12
        obtain rfl : x13 = _ := hq13
        obtain rfl : x14 = _ := hq14
        obtain rfl : x15 = _ := hq15
        obtain rfl : x16 = _ := hq16
        simp only [Reg.putL, Act.put, List.setIfInBounds_toArray, List.set_cons_succ, List.set_cons_zero]
        obtain rfl := hG.out
        clear CV C7
        go_wp2_with (fail)
        go_roundg k1
        case measure => omega
        case rel => exact ⟨5, by first | rfl | simp, ⟨by omega⟩, HBQ, HR⟩
      ·rw [if_neg h0] at hr
       have hp : 0 < n5 := by omega
       have d1 : decide ((n5 : Int) > 0) = true := decide_eq_true (by omega)
       have d2 : decide ((0 : Int) < (n5 : Int)) = true := d1
       have d3 : decide (0 < n5) = true := decide_eq_true hp
       have HIN := Aside0.mk (show ∀ W, Below wD.heap.size wD W → Calls Tryd.prog 33 #[.int .i64 4, .slice A5 n5 c5, .int .i64 mi, .int .i64 lg] W _ from fun W hW => in_any A5 c5 n5 l5 4 mi lg W H5.out.1 (Kd.C_below (Kd.C_below H5.out.2 HBW.out) hW))
       obtain ⟨b, hb⟩ : ∃ b, b = l5.any (inB 4 lg mi) := ⟨_, rfl⟩
       rw [← hb] at hr HIN
       clear hb
       go_wp2_with (fail)
       refine Reg.region_list hmix [some 35, some 36, some 37, some 38, some 39, some 40, some 41, some 42, some 43, some 44, some 45, some 46, some 47, some 48, some 49, some 50, some 51] [[], [0], [1], [2], [3], [4], [5], [5], [7, 5], [8, 5], [5], [10, 5], [11, 5], [5], [6, 9, 12, 13, 5, 5], [14, 5], [5, 15]] (fun w => Below wD.heap.size wD w) (fun w w' => Below w.heap.size w w') [(fun v w => v = (.pointer (some ⟨bv, 5, none⟩) : Value)), (fun v w => v = (.pointer (some ⟨bv, 5, none⟩) : Value)), (fun v w => v = (.slice A5 n5 c5 : Value)), (fun v w => v = (.int .i64 (n5 : Int) : Value)), (fun v w => v = (.bool true : Value)), (fun v w => v = (.bool true : Value)), (fun v w => v = (.int .i64 4 : Value)), (fun v w => v = (.pointer (some ⟨bv, 5, none⟩) : Value)), (fun v w => v = (.pointer (some ⟨bv, 5, none⟩) : Value)), (fun v w => v = (.slice A5 n5 c5 : Value)), (fun v w => v = (.int .i64 4 : Value)), (fun v w => v = (.pointer (some ⟨b7, 4, none⟩) : Value)), (fun v w => v = (.int .i64 mi : Value)), (fun v w => v = (.int .i64 lg : Value)), (fun v w => v = (.bool b : Value)), (fun v w => v = (.bool (!b) : Value)), (fun v w => v = (.bool (!b) : Value))] rfl (by kernel_rfl) (by kernel_rfl) (fun w => Below.refl w.heap.size w) (fun _ _ hr => Reg.mono_cons (fun _ h => h) (Reg.mono_cons (fun _ h => h) (Reg.mono_cons (fun _ h => h) (Reg.mono_cons (fun _ h => h) (Reg.mono_cons (fun _ h => h) (Reg.mono_cons (fun _ h => h) (Reg.mono_cons (fun _ h => h) (Reg.mono_cons (fun _ h => h) (Reg.mono_cons (fun _ h => h) (Reg.mono_cons (fun _ h => h) (Reg.mono_cons (fun _ h => h) (Reg.mono_cons (fun _ h => h) (Reg.mono_cons (fun _ h => h) (Reg.mono_cons (fun _ h => h) (Reg.mono_cons (fun _ h => h) (Reg.mono_cons (fun _ h => h) (Reg.mono_cons (fun _ h => h) (Reg.mono_nil)))))))))))))))))) (by rw [← HWD.out]; exact Below.refl _ _) ?hs ?he
       case hs =>
        intro xs0 xs hx0 hl0_ wr hG
        clear hx0
        obtain ⟨x0, xs1, rfl, hl1⟩ := Reg.len_succ hl0_
        obtain ⟨x1, xs2, rfl, hl2⟩ := Reg.len_succ hl1
        obtain ⟨x2, xs3, rfl, hl3⟩ := Reg.len_succ hl2
        obtain ⟨x3, xs4, rfl, hl4⟩ := Reg.len_succ hl3
        obtain ⟨x4, xs5, rfl, hl5⟩ := Reg.len_succ hl4
        obtain ⟨x5, xs6, rfl, hl6⟩ := Reg.len_succ hl5
        obtain ⟨x6, xs7, rfl, hl7⟩ := Reg.len_succ hl6
        obtain ⟨x7, xs8, rfl, hl8⟩ := Reg.len_succ hl7
        obtain ⟨x8, xs9, rfl, hl9⟩ := Reg.len_succ hl8
        obtain ⟨x9, xs10, rfl, hl10⟩ := Reg.len_succ hl9
        obtain ⟨x10, xs11, rfl, hl11⟩ := Reg.len_succ hl10
        obtain ⟨x11, xs12, rfl, hl12⟩ := Reg.len_succ hl11
        obtain ⟨x12, xs13, rfl, hl13⟩ := Reg.len_succ hl12
        obtain ⟨x13, xs14, rfl, hl14⟩ := Reg.len_succ hl13
        obtain ⟨x14, xs15, rfl, hl15⟩ := Reg.len_succ hl14
        obtain ⟨x15, xs16, rfl, hl16⟩ := Reg.len_succ hl15
        obtain ⟨x16, xs17, rfl, hl17⟩ := Reg.len_succ hl16
        obtain rfl := List.eq_nil_of_length_eq_zero hl17
        clear hl0_ hl1 hl2 hl3 hl4 hl5 hl6 hl7 hl8 hl9 hl10 hl11 hl12 hl13 hl14 hl15 hl16 hl17
        simp only [Reg.putL, Act.put, List.setIfInBounds_toArray, List.set_cons_succ, List.set_cons_zero]
        have cv := (hG.cell (World.block_lt_of_cell? wD _ CV)).trans CV; have c7 := (hG.cell (World.block_lt_of_cell? wD _ C7)).trans C7
        refine ⟨fun hf _ => ?_, ?_⟩
        ·clear hf
         refine .inl ⟨by rfl, ?_⟩
         simp only [Reg.ung]
         go_wp2
         exact ⟨_, rfl, hG, (fun w => Below.refl w.heap.size w) _, rfl⟩
        refine ⟨fun hf _ => ?_, ?_⟩
        ·obtain ⟨hq0, -⟩ := hf
         obtain rfl : x0 = _ := hq0
         refine .inl ⟨by rfl, ?_⟩
         simp only [Reg.ung]
         go_wp2
         exact ⟨_, rfl, hG, (fun w => Below.refl w.heap.size w) _, rfl⟩
        refine ⟨fun hf _ => ?_, ?_⟩
        ·obtain ⟨hq0, -⟩ := hf
         obtain rfl : x1 = _ := hq0
         refine .inl ⟨by rfl, ?_⟩
         simp only [Reg.ung]
         go_wp2
         exact ⟨_, rfl, hG, (fun w => Below.refl w.heap.size w) _, rfl⟩
        refine ⟨fun hf _ => ?_, ?_⟩
        ·obtain ⟨hq0, -⟩ := hf
         obtain rfl : x2 = _ := hq0
         refine .inl ⟨by rfl, ?_⟩
         simp only [Reg.ung]
         go_wp2
         exact ⟨_, rfl, hG, (fun w => Below.refl w.heap.size w) _, rfl⟩
        refine ⟨fun hf _ => ?_, ?_⟩
        ·obtain ⟨hq0, -⟩ := hf
         obtain rfl : x3 = _ := hq0
         refine .inl ⟨by rfl, ?_⟩
         simp only [Reg.ung]
         go_wp2
         exact ⟨_, rfl, hG, (fun w => Below.refl w.heap.size w) _, rfl⟩
        refine ⟨fun hf _ => ?_, ?_⟩
        ·obtain ⟨hq0, -⟩ := hf
         obtain rfl : x4 = _ := hq0
         refine .inl ⟨by rfl, ?_⟩
         simp only [Reg.ung]
         go_wp2
         exact ⟨_, rfl, hG, (fun w => Below.refl w.heap.size w) _, rfl⟩
        refine ⟨fun hf _ => ?_, ?_⟩
        ·obtain ⟨hq0, -⟩ := hf
         obtain rfl : x5 = _ := hq0
         refine .inl ⟨by rfl, ?_⟩
         simp only [Reg.ung]
         go_wp2
         exact ⟨_, rfl, hG, (fun w => Below.refl w.heap.size w) _, rfl⟩
        refine ⟨fun hf _ => ?_, ?_⟩
        ·obtain ⟨hq0, -⟩ := hf
         obtain rfl : x5 = _ := hq0
         refine .inl ⟨by rfl, ?_⟩
         simp only [Reg.ung]
         go_wp2
         exact ⟨_, rfl, hG, (fun w => Below.refl w.heap.size w) _, rfl⟩
        refine ⟨fun hf _ => ?_, ?_⟩
        ·obtain ⟨hq0, hq1, -⟩ := hf
         obtain rfl : x7 = _ := hq0
         obtain rfl : x5 = _ := hq1
         refine .inl ⟨by rfl, ?_⟩
         simp only [Reg.ung]
         go_wp2
         exact ⟨_, rfl, hG, (fun w => Below.refl w.heap.size w) _, rfl⟩
        refine ⟨fun hf _ => ?_, ?_⟩
        ·obtain ⟨hq0, hq1, -⟩ := hf
         obtain rfl : x8 = _ := hq0
         obtain rfl : x5 = _ := hq1
         refine .inl ⟨by rfl, ?_⟩
         simp only [Reg.ung]
         go_wp2
         exact ⟨_, rfl, hG, (fun w => Below.refl w.heap.size w) _, rfl⟩
        refine ⟨fun hf _ => ?_, ?_⟩
        ·obtain ⟨hq0, -⟩ := hf
         obtain rfl : x5 = _ := hq0
         refine .inl ⟨by rfl, ?_⟩
         simp only [Reg.ung]
         go_wp2
         exact ⟨_, rfl, hG, (fun w => Below.refl w.heap.size w) _, rfl⟩
        refine ⟨fun hf _ => ?_, ?_⟩
        ·obtain ⟨hq0, hq1, -⟩ := hf
         obtain rfl : x10 = _ := hq0
         obtain rfl : x5 = _ := hq1
         refine .inl ⟨by rfl, ?_⟩
         simp only [Reg.ung]
         go_wp2
         exact ⟨_, rfl, hG, (fun w => Below.refl w.heap.size w) _, rfl⟩
        refine ⟨fun hf _ => ?_, ?_⟩
        ·obtain ⟨hq0, hq1, -⟩ := hf
         obtain rfl : x11 = _ := hq0
         obtain rfl : x5 = _ := hq1
         refine .inl ⟨by rfl, ?_⟩
         simp only [Reg.ung]
         go_wp2
         exact ⟨_, rfl, hG, (fun w => Below.refl w.heap.size w) _, rfl⟩
        refine ⟨fun hf _ => ?_, ?_⟩
        ·obtain ⟨hq0, -⟩ := hf
         obtain rfl : x5 = _ := hq0
         refine .inl ⟨by rfl, ?_⟩
         simp only [Reg.ung]
         go_wp2
         exact ⟨_, rfl, hG, (fun w => Below.refl w.heap.size w) _, rfl⟩
        refine ⟨fun hf _ => ?_, ?_⟩
        ·obtain ⟨hq0, hq1, hq2, hq3, hq4, -, -⟩ := hf
         obtain rfl : x6 = _ := hq0
         obtain rfl : x9 = _ := hq1
         obtain rfl : x12 = _ := hq2
         obtain rfl : x13 = _ := hq3
         obtain rfl : x5 = _ := hq4
         refine .inl ⟨by rfl, ?_⟩
         simp only [Reg.ung]
         go_wp2_with ((go_at_call 33; refine (HIN.out _ hG).mono ?_; rintro e w5 ⟨rfl, hb⟩)); exact ⟨_, rfl, below_then hG hG.size hb, hb, rfl⟩
        refine ⟨fun hf _ => ?_, ?_⟩
        ·obtain ⟨hq0, hq1, -⟩ := hf
         obtain rfl : x14 = _ := hq0
         obtain rfl : x5 = _ := hq1
         refine .inl ⟨by rfl, ?_⟩
         simp only [Reg.ung]
         go_wp2
         exact ⟨_, rfl, hG, (fun w => Below.refl w.heap.size w) _, rfl⟩
        refine ⟨fun hf _ => ?_, ?_⟩
        ·obtain ⟨hq0, hq1, -⟩ := hf
         obtain rfl : x5 = _ := hq0
         obtain rfl : x15 = _ := hq1
         refine .inl ⟨by rfl, ?_⟩
         simp only [Reg.ung]
         go_wp2
         exact ⟨_, rfl, hG, (fun w => Below.refl w.heap.size w) _, rfl⟩
        exact trivial
       case he =>
        intro xs hl0_ wr hG hf
        obtain ⟨x0, xs1, rfl, hl1⟩ := Reg.len_succ hl0_
        obtain ⟨x1, xs2, rfl, hl2⟩ := Reg.len_succ hl1
        obtain ⟨x2, xs3, rfl, hl3⟩ := Reg.len_succ hl2
        obtain ⟨x3, xs4, rfl, hl4⟩ := Reg.len_succ hl3
        obtain ⟨x4, xs5, rfl, hl5⟩ := Reg.len_succ hl4
        obtain ⟨x5, xs6, rfl, hl6⟩ := Reg.len_succ hl5
        obtain ⟨x6, xs7, rfl, hl7⟩ := Reg.len_succ hl6
        obtain ⟨x7, xs8, rfl, hl8⟩ := Reg.len_succ hl7
        obtain ⟨x8, xs9, rfl, hl9⟩ := Reg.len_succ hl8
        obtain ⟨x9, xs10, rfl, hl10⟩ := Reg.len_succ hl9
        obtain ⟨x10, xs11, rfl, hl11⟩ := Reg.len_succ hl10
        obtain ⟨x11, xs12, rfl, hl12⟩ := Reg.len_succ hl11
        obtain ⟨x12, xs13, rfl, hl13⟩ := Reg.len_succ hl12
        obtain ⟨x13, xs14, rfl, hl14⟩ := Reg.len_succ hl13
        obtain ⟨x14, xs15, rfl, hl15⟩ := Reg.len_succ hl14
        obtain ⟨x15, xs16, rfl, hl16⟩ := Reg.len_succ hl15
        obtain ⟨x16, xs17, rfl, hl17⟩ := Reg.len_succ hl16
        obtain rfl := List.eq_nil_of_length_eq_zero hl17
        clear hl0_ hl1 hl2 hl3 hl4 hl5 hl6 hl7 hl8 hl9 hl10 hl11 hl12 hl13 hl14 hl15 hl16 hl17
        obtain ⟨hq0, hq1, hq2, hq3, hq4, hq5, hq6, hq7, hq8, hq9, hq10, hq11, hq12, hq13, hq14, hq15, hq16, -⟩ := hf
        obtain rfl : x0 = _ := hq0
        obtain rfl : x1 = _ := hq1
        obtain rfl : x2 = _ := hq2
        obtain rfl : x3 = _ := hq3
        obtain rfl : x4 = _ := hq4
        obtain rfl : x5 = _ := hq5
        obtain rfl : x6 = _ := hq6
        obtain rfl : x7 = _ := hq7
        obtain rfl : x8 = _ := hq8
        obtain rfl : x9 = _ := hq9
        obtain rfl : x10 = _ := hq10
        obtain rfl : x11 = _ := hq11
        obtain rfl : x12 = _ := hq12
        obtain rfl : x13 = _ := hq13
        obtain rfl : x14 = _ := hq14
        obtain rfl : x15 = _ := hq15
        obtain rfl : x16 = _ := hq16
        simp only [Reg.putL, Act.put, List.setIfInBounds_toArray, List.set_cons_succ, List.set_cons_zero]
        have HE := Aside0.mk (below_then HBQ.out HBQ.out.size hG)
        clear CV C7 hG HIN
        cases b with
        | true =>
         rw [if_pos rfl] at hr
         have HR := Aside0.mk hr
         clear hr
         go_wp2_with (fail)
         go_roundg k1
         case measure => omega
         case rel => exact ⟨5, by first | rfl | simp, ⟨by omega⟩, HE, HR⟩
        | false =>
         rw [if_neg (fun h => by cases h)] at hr
         subst hr
         go_wp2_with (fail)
         go_ret
         exact ⟨rfl, below_then HB4.out HB4.out.size HE.out⟩
    ·have hr : true = r := HR.out
     subst hr
     go_wp2_with (fail)
     go_ret
     exact ⟨rfl, below_then HB4.out HB4.out.size HB.out⟩
 ·have d1 : decide (e = 0) = false := decide_eq_false he
  have d2 : (e == 0) = false := beq_eq_false_iff_ne.2 he
  obtain rfl : r = false := by rw [HR0.out, if_neg he]
  go_enter Tryd.func20, Tryd.ntmps20
  go_wp2_with (fail)
  refine (civil_Of.calls s ah _ _ _ _ _ _ _ w HT.out HOF.out).mono ?_
  rintro en w1 ⟨rfl, hb⟩
  have HB1 := Aside0.mk hb
  clear hb C6
  go_wp2_with (fail)
  go_ret
  exact ⟨rfl, below_alloc HB1.out _⟩
end Go.Proofs.YtgipdacenppmdaaDoor.G
