/- Check, the program's and the document's: they tell the same of any pairs. -/
import Derived.Test.YtjgommaikaeobaaGreatDoorLB
import Derived.Test.YtjgommaikaeobaaGreatDoorReg
set_option linter.unusedVariables false
set_option linter.unusedSimpArgs false
namespace Go.Proofs.YtjgommaikaeobaaGreatDoor.L
open Go.RowKit Go.Shelf Go.Lib Go.Proofs.YtjgommaikaeobaaGreatDoorW.PrintWords Go.Proofs.YtjgommaikaeobaaGreatDoor.P

theorem hmix : Tryz.prog.follows .mixedOrders = true := by kernel_rfl
theorem compareBytes_lt (a b : List UInt8) : (Lib.compareBytes a b < 0 ↔ a < b) ∧ (Lib.compareBytes a b = 0 ↔ a = b) := by
  induction a generalizing b with
  | nil => cases b <;> simp [Lib.compareBytes]
  | cons x a ih =>
    cases b with
    | nil => simp [Lib.compareBytes]
    | cons y b =>
      simp only [Lib.compareBytes, List.cons_lt_cons_iff, List.cons.injEq]
      by_cases h1 : x < y
      · have : x ≠ y := fun e => by subst e; exact absurd h1 (UInt8.lt_irrefl _)
        simp [h1, this]
      · by_cases h2 : y < x
        · have : x ≠ y := fun e => by subst e; exact absurd h2 (UInt8.lt_irrefl _)
          simp [h1, h2, this]
        · have : x = y := UInt8.le_antisymm (UInt8.not_lt.1 h2) (UInt8.not_lt.1 h1)
          subst this
          simp [ih]
theorem byName_at (x y : S37) (w : World) : Calls Tryz.prog 35 #[.agg #[.string x.f0, .string x.f1], .agg #[.string y.f0, .string y.f1]] w fun e w' => e = .returned (.int .i64 (Lib.compareBytes x.f0.data.toList y.f0.data.toList)) ∧
    w' = (w.alloc (Obj.cells #[.string x.f0, .string x.f1] 37 (0, 0))).alloc (Obj.cells #[.string y.f0, .string y.f1] 37 (0, 0)) := by
  go_enter Tryz.func35, Tryz.ntmps35
  go_wp2_with (fail)
  refine (Tryz.strings_Compare _ _ _).mono ?_
  rintro e w' ⟨rfl, rfl⟩
  go_wp2_with (fail)
  go_ret
  exact ⟨rfl, rfl⟩
theorem byName_any (x y : S37) (w : World) : Calls Tryz.prog 35 #[.agg #[.string x.f0, .string x.f1], .agg #[.string y.f0, .string y.f1]] w fun e w' => e = .returned (.int .i64 (Lib.compareBytes x.f0.data.toList y.f0.data.toList)) ∧ Below w.heap.size w w' :=
  (byName_at x y w).mono fun _ _ ⟨he, hw⟩ => ⟨he, by rw [hw]; exact below_alloc (below_alloc (Below.refl _ _) _) _⟩

def ltN (x y : S37) : Bool := decide (x.f0.data.toList < y.f0.data.toList)
/-- The pair at i comes behind the one ahead of it. -/
def gR (l : List S37) (i : Nat) : Bool := decide (i = 0) || ltN (rd_T37 l ((i : Int) - 1)) (rd_T37 l (i : Int))
def risesB (l : List S37) : Bool := allF (gR l) 0 l.length
def endE (b : Bool) : Int := bif b then 0 else 4
def checkE (l : List S37) : Int := if partsE l = 0 then endE (risesB l) else partsE l
theorem ge_name (x y : S37) : decide (0 ≤ Lib.compareBytes x.f0.data.toList y.f0.data.toList) = !ltN x y := by
  have h := (compareBytes_lt x.f0.data.toList y.f0.data.toList).1
  unfold ltN
  by_cases hl : x.f0.data.toList < y.f0.data.toList
  · have := h.2 hl
    simp [hl]
    omega
  · have : ¬ Lib.compareBytes x.f0.data.toList y.f0.data.toList < 0 := fun e => hl (h.1 e)
    simp [hl]
    omega

set_option maxHeartbeats 2000000 in
theorem check_any (A : Option Addr) (c : Nat) (l : List S37) (w : World) (h : Kd.C k37 w A l.length l) :
    Calls Tryz.prog 18 #[.slice A l.length c] w fun e w' => e = .returned (.int .i64 (checkE l)) ∧ Below w.heap.size w w' := by
  have H := Aside0.mk h
  have H1 := Aside0.mk (parts_any A c l w h)
  have hm := h.2.1
  clear h
  by_cases hp : partsE l = 0
  · have hr : checkE l = endE (risesB l) := by unfold checkE; rw [if_pos hp]
    rw [hr]
    rw [hp] at H1
    clear hr hp
    go_enter Tryz.func18, Tryz.ntmps18
    go_wp2_with (fail)
    refine H1.out.mono ?_
    rintro e w1 ⟨rfl, hb⟩
    have HB := Aside0.mk hb
    clear hb H1
    go_wp2_with (fail)
    go_loopg [12] (l.length + 1) (fun kq v wr => ∃ x : Int, v = .int .i64 x ∧ Aside0 (0 ≤ x ∧ x ≤ l.length ∧ x + kq = l.length + 1) ∧ Aside0 (Below w.heap.size w wr) ∧ Aside0 (allF (gR l) x.toNat (l.length - x.toNat) = risesB l))
    case atStart => exact ⟨0, rfl, ⟨by omega⟩, HB, ⟨rfl⟩⟩
    case round =>
      clear HB
      obtain ⟨x, rfl, HI, HB, HR⟩ := hrel
      cases gk with
      | zero => exact absurd HI.out (by omega)
      | succ k1 =>
        obtain ⟨hx0, hxn, hxk⟩ := HI.out
        by_cases hlt : x < (l.length : Int)
        · have hstep : allF (gR l) x.toNat (l.length - x.toNat) = (gR l x.toNat && allF (gR l) (x + 1).toNat (l.length - (x + 1).toNat)) := by
            rw [show l.length - x.toNat = (l.length - (x + 1).toNat) + 1 by omega, show (x + 1).toNat = x.toNat + 1 by omega]
            rfl
          rw [hstep] at HR
          clear hstep
          by_cases hz : x = 0
          · subst hz
            have hg : gR l (0 : Int).toNat = true := by simp [gR]
            rw [hg, Bool.true_and] at HR
            clear hg
            go_wp2_with (fail)
            go_quiet (fail)
            go_wp2_with (fail)
            go_roundg k1
            case measure => omega
            case rel => exact ⟨0 + 1, rfl, ⟨by omega⟩, ⟨HB.out.trans (((⟨rfl, rfl, rfl, by simp, fun k hk => rfl⟩ : Below wr.heap.size wr (wr.drewN nq))).mono HB.out.size)⟩, HR⟩
          · obtain ⟨ad, hA, f0, f1⟩ := at_T37 H.out (x - 1) (by omega) (by omega)
            obtain ⟨ad2, hA2, g0, g1⟩ := at_T37 H.out x hx0 hlt
            rw [show (x - 1).toNat = x.toNat - 1 by omega] at f0 f1
            subst hA
            obtain rfl : ad = ad2 := by injection hA2
            have hg : gR l x.toNat = ltN (rd_T37 l (x - 1)) (rd_T37 l x) := by
              unfold gR
              rw [show ((x.toNat : Nat) : Int) = x by omega]
              simp
              intro e
              omega
            rw [hg] at HR
            clear hg hA2
            obtain ⟨p, hpe⟩ : ∃ p, p = rd_T37 l (x - 1) := ⟨_, rfl⟩
            obtain ⟨q, hqe⟩ : ∃ q, q = rd_T37 l x := ⟨_, rfl⟩
            rw [← hpe] at f0 f1 HR
            rw [← hqe] at g0 g1 HR
            have hge := ge_name p q
            clear hpe hqe
            have hxp : 0 < x := by omega
            have f0 := (HB.out.cell (World.block_lt_of_cell? w _ f0)).trans f0
            have f1 := (HB.out.cell (World.block_lt_of_cell? w _ f1)).trans f1
            have g0 := (HB.out.cell (World.block_lt_of_cell? w _ g0)).trans g0
            have g1 := (HB.out.cell (World.block_lt_of_cell? w _ g1)).trans g1
            obtain ⟨wa, hwa⟩ : ∃ wa, wa = wr := ⟨_, rfl⟩
            rw [← hwa] at f0 f1 g0 g1 HB ⊢
            clear hwa
            have HGE := Aside0.mk hge
            clear hge
            go_wp2_with (fail)
            refine Reg.region_list hmix [some 15, some 16, some 17, some 18, some 19, some 20, some 21, some 22, some 23, some 24, some 25, some 26, some 27, some 28, some 29] [[], [0], [1], [2], [2], [4, 2], [3, 5, 2], [6, 2], [2], [2], [8, 9, 2], [10, 2], [7, 11, 2, 2], [12, 2], [2, 13]] (fun w => Below wa.heap.size wa w) (fun w w' => Below w.heap.size w w') [(fun v w => v = (.int .i64 x : Value)), (fun v w => v = (.bool true : Value)), (fun v w => v = (.bool true : Value)), (fun v w => v = (.slice (some ad) l.length c : Value)), (fun v w => v = (.int .i64 x : Value)), (fun v w => v = (.int .i64 (x - 1) : Value)), (fun v w => v = (.pointer (some (ad.add ((x.toNat - 1) * 2))) : Value)), (fun v w => v = (.agg #[.string p.f0, .string p.f1] : Value)), (fun v w => v = (.slice (some ad) l.length c : Value)), (fun v w => v = (.int .i64 x : Value)), (fun v w => v = (.pointer (some (ad.add (x.toNat * 2))) : Value)), (fun v w => v = (.agg #[.string q.f0, .string q.f1] : Value)), (fun v w => v = (.int .i64 (Lib.compareBytes p.f0.data.toList q.f0.data.toList) : Value)), (fun v w => v = (.bool (decide (0 ≤ Lib.compareBytes p.f0.data.toList q.f0.data.toList)) : Value)), (fun v w => v = (.bool (decide (0 ≤ Lib.compareBytes p.f0.data.toList q.f0.data.toList)) : Value))] rfl (by kernel_rfl) (by kernel_rfl) (fun w => Below.refl w.heap.size w) (fun _ _ hr => Reg.mono_cons (fun _ h => h) (Reg.mono_cons (fun _ h => h) (Reg.mono_cons (fun _ h => h) (Reg.mono_cons (fun _ h => h) (Reg.mono_cons (fun _ h => h) (Reg.mono_cons (fun _ h => h) (Reg.mono_cons (fun _ h => h) (Reg.mono_cons (fun _ h => h) (Reg.mono_cons (fun _ h => h) (Reg.mono_cons (fun _ h => h) (Reg.mono_cons (fun _ h => h) (Reg.mono_cons (fun _ h => h) (Reg.mono_cons (fun _ h => h) (Reg.mono_cons (fun _ h => h) (Reg.mono_cons (fun _ h => h) (Reg.mono_nil)))))))))))))))) ((Below.refl _ _).drew) ?hs ?he
            case hs =>
              intro xs0 xs hx0 hl0_ wr hG
              clear hx0
              obtain ⟨x0, xs1, rfl, hl1⟩ := Reg.len_succ hl0_
              obtain ⟨x1, xs2, rfl, hl2⟩ := Reg.len_succ hl1
              obtain ⟨x2, xs3, rfl, hl3⟩ := Reg.len_succ hl2
              obtain ⟨x3, xs4, rfl, hl4⟩ := Reg.len_succ hl3
              obtain ⟨x4, xs5, rfl, hl5⟩ := Reg.len_succ hl4
              obtain ⟨x5, xs6, rfl, hl6⟩ := Reg.len_succ hl5
              obtain ⟨x6, xs7, rfl, hl7⟩ := Reg.len_succ hl6
              obtain ⟨x7, xs8, rfl, hl8⟩ := Reg.len_succ hl7
              obtain ⟨x8, xs9, rfl, hl9⟩ := Reg.len_succ hl8
              obtain ⟨x9, xs10, rfl, hl10⟩ := Reg.len_succ hl9
              obtain ⟨x10, xs11, rfl, hl11⟩ := Reg.len_succ hl10
              obtain ⟨x11, xs12, rfl, hl12⟩ := Reg.len_succ hl11
              obtain ⟨x12, xs13, rfl, hl13⟩ := Reg.len_succ hl12
              obtain ⟨x13, xs14, rfl, hl14⟩ := Reg.len_succ hl13
              obtain ⟨x14, xs15, rfl, hl15⟩ := Reg.len_succ hl14
              obtain rfl := List.eq_nil_of_length_eq_zero hl15
              clear hl0_ hl1 hl2 hl3 hl4 hl5 hl6 hl7 hl8 hl9 hl10 hl11 hl12 hl13 hl14 hl15
              simp only [Reg.putL, Act.put, List.setIfInBounds_toArray, List.set_cons_succ, List.set_cons_zero]
              have f0' := (hG.cell (World.block_lt_of_cell? wa _ f0)).trans f0; have f1' := (hG.cell (World.block_lt_of_cell? wa _ f1)).trans f1; have g0' := (hG.cell (World.block_lt_of_cell? wa _ g0)).trans g0; have g1' := (hG.cell (World.block_lt_of_cell? wa _ g1)).trans g1
              refine ⟨fun hf _ => ?_, ?_⟩
              · clear hf
                refine .inl ⟨by rfl, ?_⟩
                simp only [Reg.ung]
                go_wp2
                exact ⟨_, rfl, hG, (fun w => Below.refl w.heap.size w) _, rfl⟩
              refine ⟨fun hf _ => ?_, ?_⟩
              · obtain ⟨hq0, -⟩ := hf
                obtain rfl : x0 = _ := hq0
                refine .inl ⟨by rfl, ?_⟩
                simp only [Reg.ung]
                go_wp2
                exact ⟨_, rfl, hG, (fun w => Below.refl w.heap.size w) _, rfl⟩
              refine ⟨fun hf _ => ?_, ?_⟩
              · obtain ⟨hq0, -⟩ := hf
                obtain rfl : x1 = _ := hq0
                refine .inl ⟨by rfl, ?_⟩
                simp only [Reg.ung]
                go_wp2
                exact ⟨_, rfl, hG, (fun w => Below.refl w.heap.size w) _, rfl⟩
              refine ⟨fun hf _ => ?_, ?_⟩
              · obtain ⟨hq0, -⟩ := hf
                obtain rfl : x2 = _ := hq0
                refine .inl ⟨by rfl, ?_⟩
                simp only [Reg.ung]
                go_wp2
                exact ⟨_, rfl, hG, (fun w => Below.refl w.heap.size w) _, rfl⟩
              refine ⟨fun hf _ => ?_, ?_⟩
              · obtain ⟨hq0, -⟩ := hf
                obtain rfl : x2 = _ := hq0
                refine .inl ⟨by rfl, ?_⟩
                simp only [Reg.ung]
                go_wp2
                exact ⟨_, rfl, hG, (fun w => Below.refl w.heap.size w) _, rfl⟩
              refine ⟨fun hf _ => ?_, ?_⟩
              · obtain ⟨hq0, hq1, -⟩ := hf
                obtain rfl : x4 = _ := hq0
                obtain rfl : x2 = _ := hq1
                refine .inl ⟨by rfl, ?_⟩
                simp only [Reg.ung]
                go_wp2
                exact ⟨_, rfl, hG, (fun w => Below.refl w.heap.size w) _, rfl⟩
              refine ⟨fun hf _ => ?_, ?_⟩
              · obtain ⟨hq0, hq1, hq2, -⟩ := hf
                obtain rfl : x3 = _ := hq0
                obtain rfl : x5 = _ := hq1
                obtain rfl : x2 = _ := hq2
                refine .inl ⟨by rfl, ?_⟩
                simp only [Reg.ung]
                go_wp2
                exact ⟨_, rfl, hG, (fun w => Below.refl w.heap.size w) _, rfl⟩
              refine ⟨fun hf _ => ?_, ?_⟩
              · obtain ⟨hq0, hq1, -⟩ := hf
                obtain rfl : x6 = _ := hq0
                obtain rfl : x2 = _ := hq1
                refine .inl ⟨by rfl, ?_⟩
                simp only [Reg.ung]
                go_wp2
                exact ⟨_, rfl, hG, (fun w => Below.refl w.heap.size w) _, rfl⟩
              refine ⟨fun hf _ => ?_, ?_⟩
              · obtain ⟨hq0, -⟩ := hf
                obtain rfl : x2 = _ := hq0
                refine .inl ⟨by rfl, ?_⟩
                simp only [Reg.ung]
                go_wp2
                exact ⟨_, rfl, hG, (fun w => Below.refl w.heap.size w) _, rfl⟩
              refine ⟨fun hf _ => ?_, ?_⟩
              · obtain ⟨hq0, -⟩ := hf
                obtain rfl : x2 = _ := hq0
                refine .inl ⟨by rfl, ?_⟩
                simp only [Reg.ung]
                go_wp2
                exact ⟨_, rfl, hG, (fun w => Below.refl w.heap.size w) _, rfl⟩
              refine ⟨fun hf _ => ?_, ?_⟩
              · obtain ⟨hq0, hq1, hq2, -⟩ := hf
                obtain rfl : x8 = _ := hq0
                obtain rfl : x9 = _ := hq1
                obtain rfl : x2 = _ := hq2
                refine .inl ⟨by rfl, ?_⟩
                simp only [Reg.ung]
                go_wp2
                exact ⟨_, rfl, hG, (fun w => Below.refl w.heap.size w) _, rfl⟩
              refine ⟨fun hf _ => ?_, ?_⟩
              · obtain ⟨hq0, hq1, -⟩ := hf
                obtain rfl : x10 = _ := hq0
                obtain rfl : x2 = _ := hq1
                refine .inl ⟨by rfl, ?_⟩
                simp only [Reg.ung]
                go_wp2
                exact ⟨_, rfl, hG, (fun w => Below.refl w.heap.size w) _, rfl⟩
              refine ⟨fun hf _ => ?_, ?_⟩
              · obtain ⟨hq0, hq1, hq2, -, -⟩ := hf
                obtain rfl : x7 = _ := hq0
                obtain rfl : x11 = _ := hq1
                obtain rfl : x2 = _ := hq2
                refine .inl ⟨by rfl, ?_⟩
                simp only [Reg.ung]
                go_wp2_with ((go_at_call 35; refine (byName_any p q _).mono ?_; rintro e w' ⟨rfl, hb⟩)); exact ⟨_, rfl, below_then hG hG.size hb, hb, rfl⟩
              refine ⟨fun hf _ => ?_, ?_⟩
              · obtain ⟨hq0, hq1, -⟩ := hf
                obtain rfl : x12 = _ := hq0
                obtain rfl : x2 = _ := hq1
                refine .inl ⟨by rfl, ?_⟩
                simp only [Reg.ung]
                go_wp2
                exact ⟨_, rfl, hG, (fun w => Below.refl w.heap.size w) _, rfl⟩
              refine ⟨fun hf _ => ?_, ?_⟩
              · obtain ⟨hq0, hq1, -⟩ := hf
                obtain rfl : x2 = _ := hq0
                obtain rfl : x13 = _ := hq1
                refine .inl ⟨by rfl, ?_⟩
                simp only [Reg.ung]
                go_wp2
                exact ⟨_, rfl, hG, (fun w => Below.refl w.heap.size w) _, rfl⟩
              exact trivial
            case he =>
              intro xs hl0_ wr hG hf
              obtain ⟨x0, xs1, rfl, hl1⟩ := Reg.len_succ hl0_
              obtain ⟨x1, xs2, rfl, hl2⟩ := Reg.len_succ hl1
              obtain ⟨x2, xs3, rfl, hl3⟩ := Reg.len_succ hl2
              obtain ⟨x3, xs4, rfl, hl4⟩ := Reg.len_succ hl3
              obtain ⟨x4, xs5, rfl, hl5⟩ := Reg.len_succ hl4
              obtain ⟨x5, xs6, rfl, hl6⟩ := Reg.len_succ hl5
              obtain ⟨x6, xs7, rfl, hl7⟩ := Reg.len_succ hl6
              obtain ⟨x7, xs8, rfl, hl8⟩ := Reg.len_succ hl7
              obtain ⟨x8, xs9, rfl, hl9⟩ := Reg.len_succ hl8
              obtain ⟨x9, xs10, rfl, hl10⟩ := Reg.len_succ hl9
              obtain ⟨x10, xs11, rfl, hl11⟩ := Reg.len_succ hl10
              obtain ⟨x11, xs12, rfl, hl12⟩ := Reg.len_succ hl11
              obtain ⟨x12, xs13, rfl, hl13⟩ := Reg.len_succ hl12
              obtain ⟨x13, xs14, rfl, hl14⟩ := Reg.len_succ hl13
              obtain ⟨x14, xs15, rfl, hl15⟩ := Reg.len_succ hl14
              obtain rfl := List.eq_nil_of_length_eq_zero hl15
              clear hl0_ hl1 hl2 hl3 hl4 hl5 hl6 hl7 hl8 hl9 hl10 hl11 hl12 hl13 hl14 hl15
              obtain ⟨hq0, hq1, hq2, hq3, hq4, hq5, hq6, hq7, hq8, hq9, hq10, hq11, hq12, hq13, hq14, -⟩ := hf
              obtain rfl : x0 = _ := hq0
              obtain rfl : x1 = _ := hq1
              obtain rfl : x2 = _ := hq2
              obtain rfl : x3 = _ := hq3
              obtain rfl : x4 = _ := hq4
              obtain rfl : x5 = _ := hq5
              obtain rfl : x6 = _ := hq6
              obtain rfl : x7 = _ := hq7
              obtain rfl : x8 = _ := hq8
              obtain rfl : x9 = _ := hq9
              obtain rfl : x10 = _ := hq10
              obtain rfl : x11 = _ := hq11
              obtain rfl : x12 = _ := hq12
              obtain rfl : x13 = _ := hq13
              obtain rfl : x14 = _ := hq14
              simp only [Reg.putL, Act.put, List.setIfInBounds_toArray, List.set_cons_succ, List.set_cons_zero]
              have HB2 := Aside0.mk (below_then HB.out HB.out.size hG)
              rw [HGE.out]
              clear f0 f1 g0 g1 HGE hG
              cases hl : ltN p q with
              | false =>
                rw [hl, Bool.false_and] at HR
                go_wp2_with (fail)
                go_ret
                exact ⟨by rw [← HR.out]; rfl, HB2.out⟩
              | true =>
                rw [hl, Bool.true_and] at HR
                go_wp2_with (fail)
                go_roundg k1
                case measure => omega
                case rel => exact ⟨x + 1, rfl, ⟨by omega⟩, HB2, HR⟩
        · have hcb : decide (x < (l.length : Int)) = false := decide_eq_false hlt
          have he : risesB l = true := by
            rw [← HR.out, show l.length - x.toNat = 0 by omega]
            rfl
          have HE := Aside0.mk he
          clear HI hx0 hxn hxk hlt HR he
          go_wp2_with (fail)
          go_ret
          exact ⟨by rw [HE.out]; rfl, HB.out⟩
  · have hr : checkE l = partsE l := by unfold checkE; rw [if_neg hp]
    rw [hr]
    clear hr
    obtain ⟨pe, hpe⟩ : ∃ pe, pe = partsE l := ⟨_, rfl⟩
    rw [← hpe] at hp H1 ⊢
    clear hpe
    go_enter Tryz.func18, Tryz.ntmps18
    go_wp2_with (fail)
    refine H1.out.mono ?_
    rintro e w1 ⟨rfl, hb⟩
    have HB := Aside0.mk hb
    clear hb H1
    go_wp2_with (fail)
    go_ret
    exact ⟨rfl, HB.out⟩
theorem bless (x y : List UInt8) : Op.bytesLess x y = decide (x < y) := by
  induction x generalizing y with
  | nil => cases y <;> simp [Op.bytesLess]
  | cons a x ih =>
    cases y with
    | nil => simp [Op.bytesLess]
    | cons b y =>
      rw [Op.bytesLess, ih y]
      simp only [List.cons_lt_cons_iff]
      by_cases h1 : a < b <;> by_cases h2 : a = b <;> by_cases h3 : x < y <;> simp [h1, h2, h3]
set_option maxHeartbeats 2000000 in
theorem wcheck_any (A : Option Addr) (c : Nat) (l : List S37) (w : World) (h : Kd.C k37 w A l.length l) (hcap : l.length ≤ c) (hf : Fit l) :
    Calls Tryz.prog 22 #[.slice A l.length c] w fun e w' => e = .returned (.int .i64 (checkE l)) ∧ Below w.heap.size w w' := by
  have H := Aside0.mk h
  have H1 := Aside0.mk (wparts_any A c l w h hcap hf)
  have hm := h.2.1
  clear h hf
  by_cases hp : partsE l = 0
  · have hr : checkE l = endE (risesB l) := by unfold checkE; rw [if_pos hp]
    rw [hr]
    rw [hp] at H1
    clear hr hp
    go_enter Tryz.func22, Tryz.ntmps22
    go_wp2_with (fail)
    refine H1.out.mono ?_
    rintro e w1 ⟨rfl, hb⟩
    have HB := Aside0.mk hb.below
    clear hb H1
    go_wp2_with (fail)
    go_loopg [4] (l.length + 1) (fun kq v wr => ∃ x : Int, v = .int .i64 x ∧ Aside0 (1 ≤ x ∧ x + kq = l.length + 2) ∧ Aside0 (Below w.heap.size w wr) ∧ Aside0 (allF (gR l) x.toNat (l.length - x.toNat) = risesB l))
    case atStart => exact ⟨1, rfl, ⟨by omega⟩, HB, ⟨by
      unfold risesB
      cases hl : l.length with
      | zero => rfl
      | succ n => show allF (gR l) 1 (n + 1 - 1) = (gR l 0 && allF (gR l) 1 n); simp [gR]⟩⟩
    case round =>
      clear HB
      obtain ⟨x, rfl, HI, HB, HR⟩ := hrel
      obtain ⟨hx0, hxk⟩ := HI.out
      by_cases hlt : x < (l.length : Int)
      · cases gk with
        | zero => exact absurd HI.out (by omega)
        | succ k1 =>
          have hstep : allF (gR l) x.toNat (l.length - x.toNat) = (gR l x.toNat && allF (gR l) (x + 1).toNat (l.length - (x + 1).toNat)) := by
            rw [show l.length - x.toNat = (l.length - (x + 1).toNat) + 1 by omega, show (x + 1).toNat = x.toNat + 1 by omega]
            rfl
          rw [hstep] at HR
          clear hstep
          obtain ⟨ad, hA, f0, f1⟩ := at_T37 H.out (x - 1) (by omega) (by omega)
          obtain ⟨ad2, hA2, g0, g1⟩ := at_T37 H.out x (by omega) hlt
          rw [show (x - 1).toNat = x.toNat - 1 by omega] at f0 f1
          subst hA
          obtain rfl : ad = ad2 := by injection hA2
          have hg : gR l x.toNat = ltN (rd_T37 l (x - 1)) (rd_T37 l x) := by
            unfold gR
            rw [show ((x.toNat : Nat) : Int) = x by omega]
            simp
            intro e
            omega
          rw [hg] at HR
          clear hg hA2
          obtain ⟨p, hpe⟩ : ∃ p, p = rd_T37 l (x - 1) := ⟨_, rfl⟩
          obtain ⟨q, hqe⟩ : ∃ q, q = rd_T37 l x := ⟨_, rfl⟩
          rw [← hpe] at f0 f1 HR
          rw [← hqe] at g0 g1 HR
          clear hpe hqe
          have f0 := (HB.out.cell (World.block_lt_of_cell? w _ f0)).trans f0
          have f1 := (HB.out.cell (World.block_lt_of_cell? w _ f1)).trans f1
          have g0 := (HB.out.cell (World.block_lt_of_cell? w _ g0)).trans g0
          have g1 := (HB.out.cell (World.block_lt_of_cell? w _ g1)).trans g1
          have hlb : decide (x < (l.length : Int)) = true := decide_eq_true hlt
          have HBL := Aside0.mk (show Op.bytesLess p.f0.toList q.f0.toList = ltN p q by rw [bless]; unfold ltN; rw [ByteArray.toList_eq, ByteArray.toList_eq])
          obtain ⟨wa, hwa⟩ : ∃ wa, wa = wr := ⟨_, rfl⟩
          rw [← hwa] at f0 f1 g0 g1 HB ⊢
          clear hwa
          have hxp : 0 < x := by omega
          go_wp2_with (fail)
          refine Reg.region_list hmix [some 17, some 18, some 19, some 20, some 21, some 22, some 23, some 24, some 25, some 26, some 27, some 28] [[], [], [1], [0, 2], [3], [4], [], [], [6, 7], [8], [9], [5, 10]] (fun w => Below wa.heap.size wa w) (fun w w' => Below w.heap.size w w') [(fun v w => v = (.slice (some ad) l.length c : Value)), (fun v w => v = (.int .i64 x : Value)), (fun v w => v = (.int .i64 (x - 1) : Value)), (fun v w => v = (.pointer (some (ad.add ((x.toNat - 1) * 2))) : Value)), (fun v w => v = (.pointer (some (ad.add ((x.toNat - 1) * 2))) : Value)), (fun v w => v = (.string p.f0 : Value)), (fun v w => v = (.slice (some ad) l.length c : Value)), (fun v w => v = (.int .i64 x : Value)), (fun v w => v = (.pointer (some (ad.add (x.toNat * 2))) : Value)), (fun v w => v = (.pointer (some (ad.add (x.toNat * 2))) : Value)), (fun v w => v = (.string q.f0 : Value)), (fun v w => v = (.bool (!ltN p q) : Value))] rfl (by kernel_rfl) (by kernel_rfl) (fun w => Below.refl w.heap.size w) (fun _ _ hr => Reg.mono_cons (fun _ h => h) (Reg.mono_cons (fun _ h => h) (Reg.mono_cons (fun _ h => h) (Reg.mono_cons (fun _ h => h) (Reg.mono_cons (fun _ h => h) (Reg.mono_cons (fun _ h => h) (Reg.mono_cons (fun _ h => h) (Reg.mono_cons (fun _ h => h) (Reg.mono_cons (fun _ h => h) (Reg.mono_cons (fun _ h => h) (Reg.mono_cons (fun _ h => h) (Reg.mono_cons (fun _ h => h) (Reg.mono_nil))))))))))))) ((Below.refl _ _).drew) ?hs ?he
          case hs =>
            intro xs0 xs hx0 hl0_ wr hG
            clear hx0
            obtain ⟨x0, xs1, rfl, hl1⟩ := Reg.len_succ hl0_
            obtain ⟨x1, xs2, rfl, hl2⟩ := Reg.len_succ hl1
            obtain ⟨x2, xs3, rfl, hl3⟩ := Reg.len_succ hl2
            obtain ⟨x3, xs4, rfl, hl4⟩ := Reg.len_succ hl3
            obtain ⟨x4, xs5, rfl, hl5⟩ := Reg.len_succ hl4
            obtain ⟨x5, xs6, rfl, hl6⟩ := Reg.len_succ hl5
            obtain ⟨x6, xs7, rfl, hl7⟩ := Reg.len_succ hl6
            obtain ⟨x7, xs8, rfl, hl8⟩ := Reg.len_succ hl7
            obtain ⟨x8, xs9, rfl, hl9⟩ := Reg.len_succ hl8
            obtain ⟨x9, xs10, rfl, hl10⟩ := Reg.len_succ hl9
            obtain ⟨x10, xs11, rfl, hl11⟩ := Reg.len_succ hl10
            obtain ⟨x11, xs12, rfl, hl12⟩ := Reg.len_succ hl11
            obtain rfl := List.eq_nil_of_length_eq_zero hl12
            clear hl0_ hl1 hl2 hl3 hl4 hl5 hl6 hl7 hl8 hl9 hl10 hl11 hl12
            simp only [Reg.putL, Act.put, List.setIfInBounds_toArray, List.set_cons_succ, List.set_cons_zero]
            have f0' := (hG.cell (World.block_lt_of_cell? wa _ f0)).trans f0; have g0' := (hG.cell (World.block_lt_of_cell? wa _ g0)).trans g0
            refine ⟨fun hf _ => ?_, ?_⟩
            · clear hf
              refine .inl ⟨by rfl, ?_⟩
              simp only [Reg.ung]
              go_wp2
              exact ⟨_, rfl, hG, (fun w => Below.refl w.heap.size w) _, rfl⟩
            refine ⟨fun hf _ => ?_, ?_⟩
            · clear hf
              refine .inl ⟨by rfl, ?_⟩
              simp only [Reg.ung]
              go_wp2
              exact ⟨_, rfl, hG, (fun w => Below.refl w.heap.size w) _, rfl⟩
            refine ⟨fun hf _ => ?_, ?_⟩
            · obtain ⟨hq0, -⟩ := hf
              obtain rfl : x1 = _ := hq0
              refine .inl ⟨by rfl, ?_⟩
              simp only [Reg.ung]
              go_wp2
              exact ⟨_, rfl, hG, (fun w => Below.refl w.heap.size w) _, rfl⟩
            refine ⟨fun hf _ => ?_, ?_⟩
            · obtain ⟨hq0, hq1, -⟩ := hf
              obtain rfl : x0 = _ := hq0
              obtain rfl : x2 = _ := hq1
              refine .inl ⟨by rfl, ?_⟩
              simp only [Reg.ung]
              go_wp2
              exact ⟨_, rfl, hG, (fun w => Below.refl w.heap.size w) _, rfl⟩
            refine ⟨fun hf _ => ?_, ?_⟩
            · obtain ⟨hq0, -⟩ := hf
              obtain rfl : x3 = _ := hq0
              refine .inl ⟨by rfl, ?_⟩
              simp only [Reg.ung]
              go_wp2
              exact ⟨_, rfl, hG, (fun w => Below.refl w.heap.size w) _, rfl⟩
            refine ⟨fun hf _ => ?_, ?_⟩
            · obtain ⟨hq0, -⟩ := hf
              obtain rfl : x4 = _ := hq0
              refine .inl ⟨by rfl, ?_⟩
              simp only [Reg.ung]
              go_wp2
              exact ⟨_, rfl, hG, (fun w => Below.refl w.heap.size w) _, rfl⟩
            refine ⟨fun hf _ => ?_, ?_⟩
            · clear hf
              refine .inl ⟨by rfl, ?_⟩
              simp only [Reg.ung]
              go_wp2
              exact ⟨_, rfl, hG, (fun w => Below.refl w.heap.size w) _, rfl⟩
            refine ⟨fun hf _ => ?_, ?_⟩
            · clear hf
              refine .inl ⟨by rfl, ?_⟩
              simp only [Reg.ung]
              go_wp2
              exact ⟨_, rfl, hG, (fun w => Below.refl w.heap.size w) _, rfl⟩
            refine ⟨fun hf _ => ?_, ?_⟩
            · obtain ⟨hq0, hq1, -⟩ := hf
              obtain rfl : x6 = _ := hq0
              obtain rfl : x7 = _ := hq1
              refine .inl ⟨by rfl, ?_⟩
              simp only [Reg.ung]
              go_wp2
              exact ⟨_, rfl, hG, (fun w => Below.refl w.heap.size w) _, rfl⟩
            refine ⟨fun hf _ => ?_, ?_⟩
            · obtain ⟨hq0, -⟩ := hf
              obtain rfl : x8 = _ := hq0
              refine .inl ⟨by rfl, ?_⟩
              simp only [Reg.ung]
              go_wp2
              exact ⟨_, rfl, hG, (fun w => Below.refl w.heap.size w) _, rfl⟩
            refine ⟨fun hf _ => ?_, ?_⟩
            · obtain ⟨hq0, -⟩ := hf
              obtain rfl : x9 = _ := hq0
              refine .inl ⟨by rfl, ?_⟩
              simp only [Reg.ung]
              go_wp2
              exact ⟨_, rfl, hG, (fun w => Below.refl w.heap.size w) _, rfl⟩
            refine ⟨fun hf _ => ?_, ?_⟩
            · obtain ⟨hq0, hq1, -⟩ := hf
              obtain rfl : x5 = _ := hq0
              obtain rfl : x10 = _ := hq1
              refine .inl ⟨by rfl, ?_⟩
              simp only [Reg.ung]
              go_wp2; apply_assumption; exact ⟨_, rfl, hG, Below.refl _ _, congrArg (fun b => Value.bool (!b)) HBL.out⟩
            exact trivial
          case he =>
            intro xs hl0_ wr hG hf
            obtain ⟨x0, xs1, rfl, hl1⟩ := Reg.len_succ hl0_
            obtain ⟨x1, xs2, rfl, hl2⟩ := Reg.len_succ hl1
            obtain ⟨x2, xs3, rfl, hl3⟩ := Reg.len_succ hl2
            obtain ⟨x3, xs4, rfl, hl4⟩ := Reg.len_succ hl3
            obtain ⟨x4, xs5, rfl, hl5⟩ := Reg.len_succ hl4
            obtain ⟨x5, xs6, rfl, hl6⟩ := Reg.len_succ hl5
            obtain ⟨x6, xs7, rfl, hl7⟩ := Reg.len_succ hl6
            obtain ⟨x7, xs8, rfl, hl8⟩ := Reg.len_succ hl7
            obtain ⟨x8, xs9, rfl, hl9⟩ := Reg.len_succ hl8
            obtain ⟨x9, xs10, rfl, hl10⟩ := Reg.len_succ hl9
            obtain ⟨x10, xs11, rfl, hl11⟩ := Reg.len_succ hl10
            obtain ⟨x11, xs12, rfl, hl12⟩ := Reg.len_succ hl11
            obtain rfl := List.eq_nil_of_length_eq_zero hl12
            clear hl0_ hl1 hl2 hl3 hl4 hl5 hl6 hl7 hl8 hl9 hl10 hl11 hl12
            obtain ⟨hq0, hq1, hq2, hq3, hq4, hq5, hq6, hq7, hq8, hq9, hq10, hq11, -⟩ := hf
            obtain rfl : x0 = _ := hq0
            obtain rfl : x1 = _ := hq1
            obtain rfl : x2 = _ := hq2
            obtain rfl : x3 = _ := hq3
            obtain rfl : x4 = _ := hq4
            obtain rfl : x5 = _ := hq5
            obtain rfl : x6 = _ := hq6
            obtain rfl : x7 = _ := hq7
            obtain rfl : x8 = _ := hq8
            obtain rfl : x9 = _ := hq9
            obtain rfl : x10 = _ := hq10
            obtain rfl : x11 = _ := hq11
            simp only [Reg.putL, Act.put, List.setIfInBounds_toArray, List.set_cons_succ, List.set_cons_zero]
            have HB2 := Aside0.mk (below_then HB.out HB.out.size hG)
            clear f0 f1 g0 g1 hG HBL
            cases hl : ltN p q with
            | false =>
              rw [hl, Bool.false_and] at HR
              go_wp2_with (fail)
              go_ret
              exact ⟨by rw [← HR.out]; rfl, HB2.out⟩
            | true =>
              rw [hl, Bool.true_and] at HR
              go_wp2_with (fail)
              go_roundg k1
              case measure => omega
              case rel => exact ⟨x + 1, rfl, ⟨by omega⟩, HB2, HR⟩
      · have hcb : decide (x < (l.length : Int)) = false := decide_eq_false hlt
        have he : risesB l = true := by
          rw [← HR.out, show l.length - x.toNat = 0 by omega]
          rfl
        have HE := Aside0.mk he
        clear HI hx0 hxk hlt HR he
        go_wp2_with (fail)
        go_ret
        exact ⟨by rw [HE.out]; rfl, HB.out⟩
  · have hr : checkE l = partsE l := by unfold checkE; rw [if_neg hp]
    rw [hr]
    clear hr
    obtain ⟨pe, hpe⟩ : ∃ pe, pe = partsE l := ⟨_, rfl⟩
    rw [← hpe] at hp H1 ⊢
    clear hpe
    go_enter Tryz.func22, Tryz.ntmps22
    go_wp2_with (fail)
    refine H1.out.mono ?_
    rintro e w1 ⟨rfl, hb⟩
    have HB := Aside0.mk hb.below
    clear hb H1
    go_wp2_with (fail)
    go_loopg [4] 1 (fun kq v wr => v = .int .i64 1 ∧ wr = w1)
    case atStart => exact ⟨rfl, rfl⟩
    case round =>
      obtain ⟨rfl, rfl⟩ := hrel
      by_cases hlt : 1 < (l.length : Int)
      · have hlb : decide (1 < (l.length : Int)) = true := decide_eq_true hlt
        go_wp2_with (fail)
        go_ret
        exact ⟨rfl, HB.out⟩
      · have hlb : decide (1 < (l.length : Int)) = false := decide_eq_false hlt
        go_wp2_with (fail)
        go_ret
        exact ⟨rfl, HB.out⟩
end Go.Proofs.YtjgommaikaeobaaGreatDoor.L
