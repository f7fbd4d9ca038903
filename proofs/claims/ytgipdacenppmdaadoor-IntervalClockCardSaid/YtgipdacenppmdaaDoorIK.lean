/- civil.Long, and the number of a part's name. -/
import Derived.Test.YtgipdacenppmdaaDoorIA
import Derived.Test.YtgipdacenppmdaaDoorL1
import Derived.Test.YtgipdacenppmdaaDoorReg
set_option linter.unusedVariables false
set_option linter.unusedSimpArgs false
namespace Go.Proofs.YtgipdacenppmdaaDoor.G
open Go.RowKit Go.Lib Go.Proofs.YtgipdacenppmdaaDoorW.PrintWords Go.Proofs.YtgipdacenppmdaaDoor.P
theorem hmix : Tryd.prog.follows .mixedOrders = true := by kernel_rfl
def isY (y : Int) : Bool := decide (1 ≤ y) && decide (y ≤ 9999)
def leapY (y : Int) : Bool := isY y && (decide (Int.tmod y 4 = 0) && (!decide (Int.tmod y 100 = 0) || decide (Int.tmod y 400 = 0)))
theorem is_f (y : Int) : civil_is.f y = some (isY y) := by
  unfold civil_is.f isY
  by_cases h : 1 ≤ y <;> simp [h]
theorem leap_f (y : Int) : civil_Leap.f y = some (leapY y) := by
  unfold civil_Leap.f leapY
  rw [is_f]
  simp only [Option.bind_some]
  cases isY y
  · simp
  · by_cases h1 : Int.tmod y 4 = 0 <;> by_cases h2 : Int.tmod y 100 = 0 <;> by_cases h3 : Int.tmod y 400 = 0 <;> simp [h1, h2, h3]
def longC (y m : Int) : Int := if isY y = true ∧ 1 ≤ m ∧ m ≤ 12 then wrap64 (aheadTab.getD (m.toNat + 1) 0 - aheadTab.getD m.toNat 0) + (if m = 2 ∧ leapY y = true then 1 else 0) else 0
def CLong.f (a0 : Int) (a1 : Int) : Option (Int) := some (longC a0 a1)
set_option maxRecDepth 100000 in
theorem CLong.calls (a0 : Int) (a1 : Int) (r : Int) (w : World) (hT : TabS w) (h : CLong.f a0 a1 = some r) :
    Calls Tryd.prog 32 #[.int .i64 a0, .int .i64 a1] w fun e w' => e = .returned (.int .i64 r) ∧ Below w.heap.size w w' := by
  obtain rfl := Option.some.inj h
  clear h
  have HT := Aside0.mk hT
  have HI := Aside0.mk (is_f a0)
  have HL := Aside0.mk (leap_f a0)
  unfold longC
  obtain ⟨iy, hiy⟩ : ∃ iy, iy = isY a0 := ⟨_, rfl⟩
  obtain ⟨ly, hly⟩ : ∃ ly, ly = leapY a0 := ⟨_, rfl⟩
  rw [← hiy] at HI ⊢
  rw [← hly] at HL ⊢
  clear hT hiy hly
  cases iy with
  | false =>
    rw [if_neg (fun h => by cases h.1)]
    go_enter Tryd.func32, Tryd.ntmps32
    go_wp2_with ((go_at_call 44; refine (civil_is.calls a0 _ _ HI.out).mono ?_; rintro e w' ⟨rfl, hd⟩; have HD := Aside0.mk hd.below; clear hd))
    go_ret
    exact ⟨rfl, HD.out⟩
  | true =>
    by_cases hm1 : 1 ≤ a1
    · have hd1 : decide (a1 < 1) = false := decide_eq_false (by omega)
      by_cases hm2 : a1 ≤ 12
      · have hd2 : decide (a1 > 12) = false := decide_eq_false (by omega)
        have hd3 : decide (12 < a1) = false := hd2
        rw [if_pos ⟨rfl, hm1, hm2⟩]
        obtain ⟨k, rfl⟩ : ∃ k : Nat, a1 = (k : Int) := ⟨a1.toNat, by omega⟩
        rw [Int.toNat_natCast]
        have hw1 : wrap64 ((k : Int) + 1) = (k : Int) + 1 := by unfold wrap64; omega
        have hk13 : k < 13 := by omega
        obtain ⟨ta, hta⟩ : ∃ ta, ta = aheadTab.getD (k + 1) 0 := ⟨_, rfl⟩
        obtain ⟨tb, htb⟩ : ∃ tb, tb = aheadTab.getD k 0 := ⟨_, rfl⟩
        have hsub : -1000 ≤ ta - tb ∧ ta - tb ≤ 1000 := by
          rw [hta, htb]
          have : k = 0 ∨ k = 1 ∨ k = 2 ∨ k = 3 ∨ k = 4 ∨ k = 5 ∨ k = 6 ∨ k = 7 ∨ k = 8 ∨ k = 9 ∨ k = 10 ∨ k = 11 ∨ k = 12 := by omega
          rcases this with rfl | rfl | rfl | rfl | rfl | rfl | rfl | rfl | rfl | rfl | rfl | rfl | rfl <;> decide
        have CA : w.cell? ⟨0, k + 1, none⟩ = some (.int .i64 ta) := by rw [hta]; exact HT.out.ahd.cell (by kernel_rfl) (k + 1) (by show k + 1 < 14; omega)
        have CB : w.cell? ⟨0, k, none⟩ = some (.int .i64 tb) := by rw [htb]; exact HT.out.ahd.cell (by kernel_rfl) k (by show k < 14; omega)
        rw [← hta, ← htb]
        have HSUB := Aside0.mk hsub
        clear hta htb hsub
        go_enter Tryd.func32, Tryd.ntmps32
        go_wp2_with ((go_at_call 44; refine (civil_is.calls a0 _ _ HI.out).mono ?_; rintro e w1 ⟨rfl, hd⟩; have HD := Aside0.mk hd.below; clear hd))
        obtain ⟨wd, hwd⟩ : ∃ wd, wd = w1.drew := ⟨_, rfl⟩
        have HWD := Aside0.mk hwd
        have HDD := Aside0.mk (show Below w.heap.size w wd by rw [hwd]; exact HD.out.drew)
        have ca := (HDD.out.cell (World.block_lt_of_cell? w _ CA)).trans CA
        have cb := (HDD.out.cell (World.block_lt_of_cell? w _ CB)).trans CB
        clear hwd CA CB
        refine Reg.region_list hmix [some 17, some 18, some 19, some 20, some 21, some 22, some 23, some 24, some 5] [[], [0], [1], [2], [], [4], [5], [3, 6], [7, 0, 1, 2, 3, 4, 5, 6, 7]] (fun w => Aside0 (w = wd)) (fun w w' => Aside0 (w' = w)) [(fun v w => v = (.int .i64 (k : Int) : Value)), (fun v w => v = (.int .i64 ((k : Int) + 1) : Value)), (fun v w => v = (.pointer (some ⟨0, k + 1, none⟩) : Value)), (fun v w => v = (.int .i64 ta : Value)), (fun v w => v = (.int .i64 (k : Int) : Value)), (fun v w => v = (.pointer (some ⟨0, k, none⟩) : Value)), (fun v w => v = (.int .i64 tb : Value)), (fun v w => v = (.int .i64 (wrap64 (ta - tb)) : Value)), (fun v w => v = (.int .i64 (wrap64 (ta - tb)) : Value))] rfl (by kernel_rfl) (by kernel_rfl) (fun _ => ⟨rfl⟩) (fun _ _ hr => Reg.mono_cons (fun _ h => h) (Reg.mono_cons (fun _ h => h) (Reg.mono_cons (fun _ h => h) (Reg.mono_cons (fun _ h => h) (Reg.mono_cons (fun _ h => h) (Reg.mono_cons (fun _ h => h) (Reg.mono_cons (fun _ h => h) (Reg.mono_cons (fun _ h => h) (Reg.mono_cons (fun _ h => h) (Reg.mono_nil)))))))))) (⟨HWD.out.symm⟩) ?hs ?he
        case hs =>
          intro xs0 xs hx0 hl0_ wr hG
          clear hx0
          obtain ⟨x0, xs1, rfl, hl1⟩ := Reg.len_succ hl0_
          obtain ⟨x1, xs2, rfl, hl2⟩ := Reg.len_succ hl1
          obtain ⟨x2, xs3, rfl, hl3⟩ := Reg.len_succ hl2
          obtain ⟨x3, xs4, rfl, hl4⟩ := Reg.len_succ hl3
          obtain ⟨x4, xs5, rfl, hl5⟩ := Reg.len_succ hl4
          obtain ⟨x5, xs6, rfl, hl6⟩ := Reg.len_succ hl5
          obtain ⟨x6, xs7, rfl, hl7⟩ := Reg.len_succ hl6
          obtain ⟨x7, xs8, rfl, hl8⟩ := Reg.len_succ hl7
          obtain ⟨x8, xs9, rfl, hl9⟩ := Reg.len_succ hl8
          obtain rfl := List.eq_nil_of_length_eq_zero hl9
          clear hl0_ hl1 hl2 hl3 hl4 hl5 hl6 hl7 hl8 hl9
          simp only [Reg.putL, Act.put, List.setIfInBounds_toArray, List.set_cons_succ, List.set_cons_zero]
          obtain rfl := hG.out
          refine ⟨fun hf _ => ?_, ?_⟩
          · clear hf
            refine .inl ⟨by rfl, ?_⟩
            simp only [Reg.ung]
            go_wp2
            first | exact ⟨_, rfl, hG, ⟨rfl⟩, rfl⟩ | exact ⟨rfl, hG, ⟨rfl⟩, rfl⟩ | exact ⟨rfl, hG, ⟨rfl⟩⟩ | exact ⟨rfl, ⟨rfl⟩⟩
          refine ⟨fun hf _ => ?_, ?_⟩
          · obtain ⟨hq0, -⟩ := hf
            obtain rfl : x0 = _ := hq0
            refine .inl ⟨by rfl, ?_⟩
            simp only [Reg.ung]
            go_wp2
            first | exact ⟨_, rfl, hG, ⟨rfl⟩, rfl⟩ | exact ⟨rfl, hG, ⟨rfl⟩, rfl⟩ | exact ⟨rfl, hG, ⟨rfl⟩⟩ | exact ⟨rfl, ⟨rfl⟩⟩
          refine ⟨fun hf _ => ?_, ?_⟩
          · obtain ⟨hq0, -⟩ := hf
            obtain rfl : x1 = _ := hq0
            refine .inl ⟨by rfl, ?_⟩
            simp only [Reg.ung]
            go_wp2
            first | exact ⟨_, rfl, hG, ⟨rfl⟩, rfl⟩ | exact ⟨rfl, hG, ⟨rfl⟩, rfl⟩ | exact ⟨rfl, hG, ⟨rfl⟩⟩ | exact ⟨rfl, ⟨rfl⟩⟩
          refine ⟨fun hf _ => ?_, ?_⟩
          · obtain ⟨hq0, -⟩ := hf
            obtain rfl : x2 = _ := hq0
            refine .inl ⟨by rfl, ?_⟩
            simp only [Reg.ung]
            go_wp2
            first | exact ⟨_, rfl, hG, ⟨rfl⟩, rfl⟩ | exact ⟨rfl, hG, ⟨rfl⟩, rfl⟩ | exact ⟨rfl, hG, ⟨rfl⟩⟩ | exact ⟨rfl, ⟨rfl⟩⟩
          refine ⟨fun hf _ => ?_, ?_⟩
          · clear hf
            refine .inl ⟨by rfl, ?_⟩
            simp only [Reg.ung]
            go_wp2
            first | exact ⟨_, rfl, hG, ⟨rfl⟩, rfl⟩ | exact ⟨rfl, hG, ⟨rfl⟩, rfl⟩ | exact ⟨rfl, hG, ⟨rfl⟩⟩ | exact ⟨rfl, ⟨rfl⟩⟩
          refine ⟨fun hf _ => ?_, ?_⟩
          · obtain ⟨hq0, -⟩ := hf
            obtain rfl : x4 = _ := hq0
            refine .inl ⟨by rfl, ?_⟩
            simp only [Reg.ung]
            go_wp2
            first | exact ⟨_, rfl, hG, ⟨rfl⟩, rfl⟩ | exact ⟨rfl, hG, ⟨rfl⟩, rfl⟩ | exact ⟨rfl, hG, ⟨rfl⟩⟩ | exact ⟨rfl, ⟨rfl⟩⟩
          refine ⟨fun hf _ => ?_, ?_⟩
          · obtain ⟨hq0, -⟩ := hf
            obtain rfl : x5 = _ := hq0
            refine .inl ⟨by rfl, ?_⟩
            simp only [Reg.ung]
            go_wp2
            first | exact ⟨_, rfl, hG, ⟨rfl⟩, rfl⟩ | exact ⟨rfl, hG, ⟨rfl⟩, rfl⟩ | exact ⟨rfl, hG, ⟨rfl⟩⟩ | exact ⟨rfl, ⟨rfl⟩⟩
          refine ⟨fun hf _ => ?_, ?_⟩
          · obtain ⟨hq0, hq1, -⟩ := hf
            obtain rfl : x3 = _ := hq0
            obtain rfl : x6 = _ := hq1
            refine .inl ⟨by rfl, ?_⟩
            simp only [Reg.ung]
            go_wp2
            first | exact ⟨_, rfl, hG, ⟨rfl⟩, rfl⟩ | exact ⟨rfl, hG, ⟨rfl⟩, rfl⟩ | exact ⟨rfl, hG, ⟨rfl⟩⟩ | exact ⟨rfl, ⟨rfl⟩⟩
          refine ⟨fun hf _ => ?_, ?_⟩
          · obtain ⟨hq0, -, -, -, -, -, -, -, -, -⟩ := hf
            obtain rfl : x7 = _ := hq0
            refine .inl ⟨by rfl, ?_⟩
            simp only [Reg.ung]
            go_wp2
            first | exact ⟨_, rfl, hG, ⟨rfl⟩, rfl⟩ | exact ⟨rfl, hG, ⟨rfl⟩, rfl⟩ | exact ⟨rfl, hG, ⟨rfl⟩⟩ | exact ⟨rfl, ⟨rfl⟩⟩
          exact trivial
        case he =>
          intro xs hl0_ wr hG hf
          obtain ⟨x0, xs1, rfl, hl1⟩ := Reg.len_succ hl0_
          obtain ⟨x1, xs2, rfl, hl2⟩ := Reg.len_succ hl1
          obtain ⟨x2, xs3, rfl, hl3⟩ := Reg.len_succ hl2
          obtain ⟨x3, xs4, rfl, hl4⟩ := Reg.len_succ hl3
          obtain ⟨x4, xs5, rfl, hl5⟩ := Reg.len_succ hl4
          obtain ⟨x5, xs6, rfl, hl6⟩ := Reg.len_succ hl5
          obtain ⟨x6, xs7, rfl, hl7⟩ := Reg.len_succ hl6
          obtain ⟨x7, xs8, rfl, hl8⟩ := Reg.len_succ hl7
          obtain ⟨x8, xs9, rfl, hl9⟩ := Reg.len_succ hl8
          obtain rfl := List.eq_nil_of_length_eq_zero hl9
          clear hl0_ hl1 hl2 hl3 hl4 hl5 hl6 hl7 hl8 hl9
          obtain ⟨hq0, hq1, hq2, hq3, hq4, hq5, hq6, hq7, hq8, -⟩ := hf
          obtain rfl : x0 = _ := hq0
          obtain rfl : x1 = _ := hq1
          obtain rfl : x2 = _ := hq2
          obtain rfl : x3 = _ := hq3
          obtain rfl : x4 = _ := hq4
          obtain rfl : x5 = _ := hq5
          obtain rfl : x6 = _ := hq6
          obtain rfl : x7 = _ := hq7
          obtain rfl : x8 = _ := hq8
          simp only [Reg.putL, Act.put, List.setIfInBounds_toArray, List.set_cons_succ, List.set_cons_zero]
          obtain rfl := hG.out
          clear ca cb
          by_cases h2 : k = 2
          · subst h2
            cases ly with
            | true =>
              have hw2 : wrap64 (wrap64 (ta - tb) + 1) = wrap64 (ta - tb) + 1 := by have := HSUB.out; unfold wrap64; omega
              go_wp2_with ((go_at_call 45; refine (civil_Leap.calls a0 _ _ HL.out).mono ?_; rintro e w' ⟨rfl, hd⟩; have HD2 := Aside0.mk hd.below; clear hd))
              go_ret
              exact ⟨by first | rfl | (simp; done) | simp [hw2], below_then HDD.out HDD.out.size HD2.out⟩
            | false =>
              go_wp2_with ((go_at_call 45; refine (civil_Leap.calls a0 _ _ HL.out).mono ?_; rintro e w' ⟨rfl, hd⟩; have HD2 := Aside0.mk hd.below; clear hd))
              go_ret
              exact ⟨by first | rfl | (simp; done), below_then HDD.out HDD.out.size HD2.out⟩
          · have hn1 : decide ((k : Int) = 2) = false := decide_eq_false (by omega)
            have hn2 : ((k : Int) == 2) = false := beq_eq_false_iff_ne.2 (by omega)
            have hn3 : (k == 2) = false := beq_eq_false_iff_ne.2 h2
            have hne : ¬ ((k : Int) = 2 ∧ ly = true) := fun h => by omega
            go_wp2_with (fail)
            go_ret
            exact ⟨by first | rfl | (rw [if_neg hne, Int.add_zero]; rfl), HDD.out⟩
      · have hd2 : decide (a1 > 12) = true := decide_eq_true (by omega)
        have hd3 : decide (12 < a1) = true := hd2
        rw [if_neg (fun h => hm2 h.2.2)]
        go_enter Tryd.func32, Tryd.ntmps32
        go_wp2_with ((go_at_call 44; refine (civil_is.calls a0 _ _ HI.out).mono ?_; rintro e w' ⟨rfl, hd⟩; have HD := Aside0.mk hd.below; clear hd))
        go_ret
        exact ⟨rfl, HD.out⟩
    · have hd1 : decide (a1 < 1) = true := decide_eq_true (by omega)
      rw [if_neg (fun h => hm1 h.2.1)]
      go_enter Tryd.func32, Tryd.ntmps32
      go_wp2_with ((go_at_call 44; refine (civil_is.calls a0 _ _ HI.out).mono ?_; rintro e w' ⟨rfl, hd⟩; have HD := Aside0.mk hd.below; clear hd))
      go_ret
      exact ⟨rfl, HD.out⟩
def idxS : List ByteArray → ByteArray → Nat → Int
  | [], _, _ => -1
  | x :: t, s, i => if s.toList = x.toList then (i : Int) else idxS t s (i + 1)
theorem index_l0 (l : List ByteArray) (s : ByteArray) (hn : l.length ≤ 1000000) : ∀ (d i k : Nat), i + d = l.length → d < k → slices_Index_string_string.l0 k l s (l.length : Int) (i : Int) = some (idxS (l.drop i) s i)
  | 0, i, k + 1, h, hk => by
    unfold slices_Index_string_string.l0
    rw [if_neg (by omega), List.drop_eq_nil_of_le (by omega)]
    rfl
  | d + 1, i, k + 1, h, hk => by
    unfold slices_Index_string_string.l0
    have hi : i < l.length := by omega
    rw [if_pos (by omega), if_pos (by omega), if_pos (by omega), List.drop_eq_getElem_cons hi]
    have hr : rdOf ByteArray.empty l (i : Int) = l[i] := by unfold rdOf; simp [hi]
    have hw : wrap64 ((i : Int) + 1) = ((i + 1 : Nat) : Int) := by unfold wrap64; omega
    rw [hr, hw, index_l0 l s hn d (i + 1) k (by omega) (by omega), show idxS (l[i] :: l.drop (i + 1)) s i = (if s.toList = l[i].toList then (i : Int) else idxS (l.drop (i + 1)) s (i + 1)) from rfl]
    by_cases he : s.toList = l[i].toList
    · rw [if_pos he, if_pos he]
    · rw [if_neg he, if_neg he]
theorem index_f (l : List ByteArray) (s : ByteArray) (hn : l.length ≤ 999) : slices_Index_string_string.f 1000 l s = some (idxS l s 0) := by
  have := index_l0 l s (by omega) l.length 0 1000 (by omega) (by omega)
  rw [List.drop_zero] at this
  exact this
theorem idxS_rng : ∀ (l : List ByteArray) (s : ByteArray) (i : Nat), -1 ≤ idxS l s i ∧ idxS l s i ≤ (i : Int) + l.length
  | [], _, i => by unfold idxS; exact ⟨by omega, by rw [List.length_nil]; omega⟩
  | x :: t, s, i => by
    have := idxS_rng t s (i + 1)
    unfold idxS
    split
    · simp; omega
    · rw [List.length_cons]; omega
def wdays : List ByteArray := [⟨#[115, 117, 110]⟩, ⟨#[109, 111, 110]⟩, ⟨#[116, 117, 101]⟩, ⟨#[119, 101, 100]⟩, ⟨#[116, 104, 117]⟩, ⟨#[102, 114, 105]⟩, ⟨#[115, 97, 116]⟩]
def mons : List ByteArray := [⟨#[106, 97, 110]⟩, ⟨#[102, 101, 98]⟩, ⟨#[109, 97, 114]⟩, ⟨#[97, 112, 114]⟩, ⟨#[109, 97, 121]⟩, ⟨#[106, 117, 110]⟩, ⟨#[106, 117, 108]⟩, ⟨#[97, 117, 103]⟩, ⟨#[115, 101, 112]⟩, ⟨#[111, 99, 116]⟩, ⟨#[110, 111, 118]⟩, ⟨#[100, 101, 99]⟩]
theorem fields_w : SFields.f ⟨#[115, 117, 110, 32, 109, 111, 110, 32, 116, 117, 101, 32, 119, 101, 100, 32, 116, 104, 117, 32, 102, 114, 105, 32, 115, 97, 116]⟩ = some wdays := by kernel_rfl
theorem fields_m : SFields.f ⟨#[106, 97, 110, 32, 102, 101, 98, 32, 109, 97, 114, 32, 97, 112, 114, 32, 109, 97, 121, 32, 106, 117, 110, 32, 106, 117, 108, 32, 97, 117, 103, 32, 115, 101, 112, 32, 111, 99, 116, 32, 110, 111, 118, 32, 100, 101, 99]⟩ = some mons := by kernel_rfl
/-- A text cut at the first colon. -/
def cutC (s : ByteArray) : ByteArray × ByteArray := (⟨(Lib.cut s.data.toList [58]).1.toArray⟩, ⟨(Lib.cut s.data.toList [58]).2.1.toArray⟩)
def numB (k : Int) (s : ByteArray) : Int :=
  if k = 0 then idxS wdays s 0
  else if k = 1 then idxS mons s 0 + 1
  else if k = 4 then (if s.size = 5 then wrap64 (wrap64 (60 * (atoiR (cutC s).1).1) + (atoiR (cutC s).2).1) else -1)
  else if (atoiR s).2 = true then (atoiR s).1 else 0
def KNumber.f (a0 : Int) (a1 : ByteArray) : Option (Int) := if a1.size ≤ 1000000 then some (numB a0 a1) else none
theorem cut_le (s t : List UInt8) : (Lib.cut s t).1.length ≤ s.length ∧ (Lib.cut s t).2.1.length ≤ s.length := by
  unfold Lib.cut
  split
  · simp; omega
  · simp
set_option maxHeartbeats 4000000 in
set_option maxRecDepth 100000 in
theorem KNumber.calls (a0 : Int) (a1 : ByteArray) (r : Int) (w : World) (hT : TabS w) (h : KNumber.f a0 a1 = some r) :
    Calls Tryd.prog 40 #[.int .i64 a0, .string a1] w fun e w' => e = .returned (.int .i64 r) ∧ Below w.heap.size w w' := by
  unfold KNumber.f at h
  by_cases hs : a1.size ≤ 1000000
  · rw [if_pos hs] at h
    obtain rfl := Option.some.inj h
    clear h
    have HT := Aside0.mk hT
    have HS := Aside0.mk hs
    clear hT hs
    unfold numB
    by_cases h0 : a0 = 0
    · subst h0
      rw [if_pos rfl]
      go_enter Tryd.func40, Tryd.ntmps40
      go_wp2_with (fail)
      refine (SFields.calls _ _ w HT.out fields_w).mono ?_
      rintro e w1 ⟨v1, rfl, hR, hB⟩
      obtain ⟨A, c, rfl, hc, hC⟩ := Kd.R_reads hR
      have HIX := Aside0.mk (slices_Index_string_string.calls 1000 A c wdays a1 _ w1 hC hc (index_f wdays a1 (by decide)))
      have HB := Aside0.mk hB
      obtain ⟨n, hn⟩ : ∃ n, n = wdays.length := ⟨_, rfl⟩
      rw [← hn] at HIX ⊢
      clear hR hc hC hB hn
      go_wp2_with (fail)
      refine HIX.out.mono ?_
      rintro e w2 ⟨rfl, hd⟩
      have HD := Aside0.mk (below_then HB.out HB.out.size hd.below)
      clear hd
      go_wp2_with (fail)
      go_ret
      exact ⟨rfl, HD.out⟩
    · rw [if_neg h0]
      have d0 : decide (a0 = 0) = false := decide_eq_false h0
      have e0 : (a0 == 0) = false := beq_eq_false_iff_ne.2 h0
      by_cases h1 : a0 = 1
      · subst h1
        rw [if_pos rfl]
        clear h0 d0 e0
        have hrng := idxS_rng mons a1 0
        have hml : mons.length = 12 := rfl
        have hif := index_f mons a1 (by decide)
        obtain ⟨ix, hix⟩ : ∃ ix, ix = idxS mons a1 0 := ⟨_, rfl⟩
        rw [← hix] at hrng hif ⊢
        have hw : wrap64 (ix + 1) = ix + 1 := by unfold wrap64; omega
        have HIF := Aside0.mk hif
        clear hrng hml hix hif
        go_enter Tryd.func40, Tryd.ntmps40
        go_wp2_with (fail)
        refine (SFields.calls _ _ w HT.out fields_m).mono ?_
        rintro e w1 ⟨v1, rfl, hR, hB⟩
        obtain ⟨A, c, rfl, hc, hC⟩ := Kd.R_reads hR
        have HIX := Aside0.mk (slices_Index_string_string.calls 1000 A c mons a1 _ w1 hC hc HIF.out)
        have HB := Aside0.mk hB
        obtain ⟨n, hn⟩ : ∃ n, n = mons.length := ⟨_, rfl⟩
        rw [← hn] at HIX ⊢
        clear hR hc hC hB hn
        go_wp2_with (fail)
        refine HIX.out.mono ?_
        rintro e w2 ⟨rfl, hd⟩
        have HD := Aside0.mk (below_then HB.out HB.out.size hd.below)
        clear hd
        go_wp2_with (fail)
        go_ret
        exact ⟨show Ending.returned (.int .i64 (wrap64 (ix + 1))) = _ by rw [hw], HD.out⟩
      · rw [if_neg h1]
        have d1 : decide (a0 = 1) = false := decide_eq_false h1
        have e1 : (a0 == 1) = false := beq_eq_false_iff_ne.2 h1
        by_cases h4 : a0 = 4
        · subst h4
          rw [if_pos rfl]
          clear h0 d0 e0 h1 d1 e1
          have hcut : SCut.f a1 ⟨#[58]⟩ = some ((cutC a1).1, (cutC a1).2, (Lib.cut a1.data.toList [58]).2.2) := by
            unfold SCut.f
            rw [if_pos (by have := HS.out; omega)]
            rfl
          have hl := cut_le a1.data.toList [58]
          have hsz : a1.data.toList.length = a1.size := by rw [Array.length_toList]; rfl
          have hz1 : (cutC a1).1.size ≤ 1000000 := by have := HS.out; show (Lib.cut a1.data.toList [58]).1.toArray.size ≤ 1000000; rw [List.size_toArray]; omega
          have hz2 : (cutC a1).2.size ≤ 1000000 := by have := HS.out; show (Lib.cut a1.data.toList [58]).2.1.toArray.size ≤ 1000000; rw [List.size_toArray]; omega
          obtain ⟨x1, hx1⟩ : ∃ x1, x1 = (cutC a1).1 := ⟨_, rfl⟩
          obtain ⟨x2, hx2⟩ : ∃ x2, x2 = (cutC a1).2 := ⟨_, rfl⟩
          obtain ⟨x3, hx3⟩ : ∃ x3, x3 = (Lib.cut a1.data.toList [58]).2.2 := ⟨_, rfl⟩
          rw [← hx1] at hcut hz1 ⊢
          rw [← hx2] at hcut hz2 ⊢
          rw [← hx3] at hcut
          have HCUT := Aside0.mk hcut
          have HZ1 := Aside0.mk hz1
          have HZ2 := Aside0.mk hz2
          clear hcut hl hsz hz1 hz2 hx1 hx2 hx3
          obtain ⟨n1, hn1⟩ : ∃ n1, n1 = (atoiR x1).1 := ⟨_, rfl⟩
          obtain ⟨n2, hn2⟩ : ∃ n2, n2 = (atoiR x2).1 := ⟨_, rfl⟩
          rw [← hn1, ← hn2]
          have HN1 := Aside0.mk hn1
          have HN2 := Aside0.mk hn2
          clear hn1 hn2
          obtain ⟨res, hres⟩ : ∃ res, res = (if a1.size = 5 then wrap64 (wrap64 (60 * n1) + n2) else -1) := ⟨_, rfl⟩
          rw [← hres]
          have HRES := Aside0.mk hres
          clear hres
          go_enter Tryd.func40, Tryd.ntmps40
          go_wp2_with (fail)
          refine (SCut.calls a1 _ _ _ _ w HT.out HCUT.out).mono ?_
          rintro e w1 ⟨rfl, hB⟩
          have HB1 := Aside0.mk hB
          clear hB
          go_wp2_with (fail)
          refine (atoi_any x1 w1 (HT.out.below HB1.out) (by have := HZ1.out; omega)).mono ?_
          rintro e w2 ⟨ev1, rfl, _, _, hB⟩
          have HB2 := Aside0.mk (below_then HB1.out HB1.out.size hB)
          clear hB
          go_wp2_with (fail)
          refine (atoi_any x2 w2 (HT.out.below HB2.out) (by have := HZ2.out; omega)).mono ?_
          rintro e w3 ⟨ev2, rfl, _, _, hB⟩
          have HB3 := Aside0.mk (below_then HB2.out HB2.out.size hB)
          clear hB
          rw [← HN1.out, ← HN2.out]
          by_cases h5 : a1.size = 5
          · have hr := HRES.out
            rw [if_pos h5] at hr
            subst hr
            have d5 : decide ((a1.size : Int) = 5) = true := decide_eq_true (by omega)
            have e5 : ((a1.size : Int) == 5) = true := beq_iff_eq.2 (by omega)
            have f5 : (a1.size == 5) = true := beq_iff_eq.2 h5
            go_wp2_with (fail)
            go_ret
            exact ⟨rfl, HB3.out⟩
          · have hr := HRES.out
            rw [if_neg h5] at hr
            subst hr
            have d5 : decide ((a1.size : Int) = 5) = false := decide_eq_false (by omega)
            have e5 : ((a1.size : Int) == 5) = false := beq_eq_false_iff_ne.2 (by omega)
            have f5 : (a1.size == 5) = false := beq_eq_false_iff_ne.2 h5
            go_wp2_with (fail)
            go_ret
            exact ⟨rfl, HB3.out⟩
        · rw [if_neg h4]
          have d4 : decide (a0 = 4) = false := decide_eq_false h4
          have e4 : (a0 == 4) = false := beq_eq_false_iff_ne.2 h4
          have hat := atoi_any a1 w HT.out (by have := HS.out; omega)
          obtain ⟨n, hn⟩ : ∃ n, n = (atoiR a1).1 := ⟨_, rfl⟩
          obtain ⟨b, hb⟩ : ∃ b, b = (atoiR a1).2 := ⟨_, rfl⟩
          rw [← hb, ← hn] at hat
          rw [← hb, ← hn]
          have HAT := Aside0.mk hat
          obtain ⟨res, hres⟩ : ∃ res, res = (if b = true then n else 0) := ⟨_, rfl⟩
          rw [← hres]
          have HRES := Aside0.mk hres
          clear hat hn hb hres
          go_enter Tryd.func40, Tryd.ntmps40
          go_wp2_with (fail)
          refine HAT.out.mono ?_
          rintro e w1 ⟨ev, rfl, hv1, hv2, hB⟩
          have HB := Aside0.mk hB
          have hr := HRES.out
          clear hB HAT HRES
          cases b with
          | true =>
            obtain rfl := hv1 rfl
            rw [if_pos rfl] at hr
            subst hr
            clear hv1 hv2
            go_wp2_with (fail)
            go_ret
            exact ⟨rfl, HB.out⟩
          | false =>
            obtain ⟨t, p, rfl⟩ := hv2 rfl
            rw [if_neg (fun h => by cases h)] at hr
            subst hr
            clear hv1 hv2
            go_wp2_with (fail)
            go_ret
            exact ⟨rfl, HB.out⟩
  · rw [if_neg hs] at h; cases h
end Go.Proofs.YtgipdacenppmdaaDoor.G
