/- Text: the walk. -/
import Derived.Test.YtgipdacenppmdaaDoorIT
set_option linter.unusedVariables false
set_option linter.unusedSimpArgs false
namespace Go.Proofs.YtgipdacenppmdaaDoor.G
open Go.RowKit Go.Shelf Go.Lib Go.Sort Go.Proofs.YtgipdacenppmdaaDoorW.PrintWords Go.Proofs.YtgipdacenppmdaaDoor.P
theorem info9 : (Tryd.prog.info? 9).map (fun i => (i.zero, i.size, i.bytes)) = some (some (.string ⟨#[]⟩), 1, 16) := by kernel_rfl
theorem label_le {a : ByteArray} (h : label_Name.f 40 a = some true) : a.size ≤ 16 := by
 unfold label_Name.f at h
 split at h
 ·rw [label_Name.j0, if_pos rfl] at h; cases h
 split at h
 ·rw [label_Name.j0, if_pos rfl] at h; cases h
 ·omega
@[go_sem] theorem index50_j (W : World) (bv j : Nat) (h : j < 5) : (Instr.index 43 (parts bv) (.int .i64 (j : Int))).run Tryd.prog W = .ok (.pointer (some ⟨bv, j + 1, none⟩)) W := by
 have hj : j = 0 ∨ j = 1 ∨ j = 2 ∨ j = 3 ∨ j = 4 := by omega
 rcases hj with rfl | rfl | rfl | rfl | rfl
 ·exact index50_0 W _ _ _ _ _
 ·exact index50_1 W _ _ _ _ _
 ·exact index50_2 W _ _ _ _ _
 ·exact index50_3 W _ _ _ _ _
 ·exact index50_4 W _ _ _ _ _
theorem take_map_step (l : List S37) (g : S37 → ByteArray) (i : Nat) (h : i < l.length) : (l.take (i + 1)).map g = (l.take i).map g ++ [g (rd_T37 l (i : Int))] := by
 rw [List.take_add_one, List.map_append]
 congr 1
 unfold rd_T37
 simp [h]
set_option maxHeartbeats 8000000 in
set_option maxRecDepth 100000 in
theorem IText.calls (a0_0 : ByteArray) (A0_1 : Option Addr) (c0_1 : Nat) (l0_1 : List (S37)) (A0_2 : Option Addr) (c0_2 : Nat) (l0_2 : List (S37)) (A0_3 : Option Addr) (c0_3 : Nat) (l0_3 : List (S37)) (A0_4 : Option Addr) (c0_4 : Nat) (l0_4 : List (S37)) (A0_5 : Option Addr) (c0_5 : Nat) (l0_5 : List (S37)) (a0_6 : Int) (r1 : ByteArray) (r2 : Int) (w : World) (hr0_1 : Kd.C k37 w A0_1 l0_1.length l0_1) (hc0_1 : l0_1.length ≤ c0_1) (hr0_2 : Kd.C k37 w A0_2 l0_2.length l0_2) (hc0_2 : l0_2.length ≤ c0_2) (hr0_3 : Kd.C k37 w A0_3 l0_3.length l0_3) (hc0_3 : l0_3.length ≤ c0_3) (hr0_4 : Kd.C k37 w A0_4 l0_4.length l0_4) (hc0_4 : l0_4.length ≤ c0_4) (hr0_5 : Kd.C k37 w A0_5 l0_5.length l0_5) (hc0_5 : l0_5.length ≤ c0_5) (hT : TabS w) (h : IText.f a0_0 l0_1 l0_2 l0_3 l0_4 l0_5 a0_6 = some (r1, r2)) :
  Calls Tryd.prog 29 #[.agg #[.string a0_0, .slice A0_1 l0_1.length c0_1, .slice A0_2 l0_2.length c0_2, .slice A0_3 l0_3.length c0_3, .slice A0_4 l0_4.length c0_4, .slice A0_5 l0_5.length c0_5, .int .i64 a0_6]] w fun e w' => e = .returned (.tuple #[.string r1, .int .i64 r2]) ∧ Below w.heap.size w w' := by
 unfold IText.f at h
 obtain ⟨ec, hec, h'⟩ := Option.bind_eq_some_iff.1 h
 have HEC := Aside0.mk hec
 have HT := Aside0.mk hT
 have HR := Aside0.mk (Option.some.inj h')
 clear h h' hec hT
 have HC1 := Aside0.mk hr0_1
 have HC2 := Aside0.mk hr0_2
 have HC3 := Aside0.mk hr0_3
 have HC4 := Aside0.mk hr0_4
 have HC5 := Aside0.mk hr0_5
 clear hr0_1 hr0_2 hr0_3 hr0_4 hr0_5
 have HCK := Aside0.mk (show ∀ W, Below w.heap.size w W → Calls Tryd.prog 7 #[.agg #[.string a0_0, .slice A0_1 l0_1.length c0_1, .slice A0_2 l0_2.length c0_2, .slice A0_3 l0_3.length c0_3, .slice A0_4 l0_4.length c0_4, .slice A0_5 l0_5.length c0_5, .int .i64 a0_6]] W _ from fun W hW => ICheck.calls a0_0 A0_1 c0_1 l0_1 A0_2 c0_2 l0_2 A0_3 c0_3 l0_3 A0_4 c0_4 l0_4 A0_5 c0_5 l0_5 a0_6 ec W (Kd.C_below HC1.out hW) hc0_1 (Kd.C_below HC2.out hW) hc0_2 (Kd.C_below HC3.out hW) hc0_3 (Kd.C_below HC4.out hW) hc0_4 (Kd.C_below HC5.out hW) hc0_5 HEC.out)
 clear hc0_1 hc0_2 hc0_3 hc0_4 hc0_5
 obtain ⟨n1, hn1⟩ : ∃ n, n = l0_1.length := ⟨_, rfl⟩
 obtain ⟨n2, hn2⟩ : ∃ n, n = l0_2.length := ⟨_, rfl⟩
 obtain ⟨n3, hn3⟩ : ∃ n, n = l0_3.length := ⟨_, rfl⟩
 obtain ⟨n4, hn4⟩ : ∃ n, n = l0_4.length := ⟨_, rfl⟩
 obtain ⟨n5, hn5⟩ : ∃ n, n = l0_5.length := ⟨_, rfl⟩
 rw [← hn1] at HC1
 rw [← hn2] at HC2
 rw [← hn3] at HC3
 rw [← hn4] at HC4
 rw [← hn5] at HC5
 rw [← hn1, ← hn2, ← hn3, ← hn4, ← hn5] at HCK ⊢
 have HN := Aside0.mk (And.intro hn1 (And.intro hn2 (And.intro hn3 (And.intro hn4 hn5))))
 clear hn1 hn2 hn3 hn4 hn5
 by_cases he : ec = 0
 ·have hr := HR.out
  rw [if_pos he] at hr
  subst he
  obtain ⟨rfl, rfl⟩ : joinB (partsB a0_0 [l0_1, l0_2, l0_3, l0_4, l0_5] a0_6) ⟨#[32]⟩ = r1 ∧ 0 = r2 := by simpa using hr
  have hck : label_Name.f 40 a0_0 = some true ∧ chk 0 [l0_1, l0_2, l0_3, l0_4, l0_5] a0_6 = 0 := by
   have h1 := HEC.out
   unfold ICheck.f at h1
   obtain ⟨b, hb, h2⟩ := Option.bind_eq_some_iff.1 h1
   cases b with
   | false => rw [if_neg (by simp)] at h2; exact absurd h2 (by simp)
   | true => rw [if_pos rfl] at h2; exact ⟨hb, Option.some.inj h2⟩
  have HSZ := Aside0.mk (label_le hck.1)
  obtain ⟨hf, hah⟩ := fine_of _ _ _ hck.2
  have HF := Aside0.mk hf
  have HF0 := Aside0.mk hf
  have HAH := Aside0.mk hah
  obtain ⟨R, hR⟩ : ∃ R, R = joinB (partsB a0_0 [l0_1, l0_2, l0_3, l0_4, l0_5] a0_6) ⟨#[32]⟩ := ⟨_, rfl⟩
  rw [← hR]
  have HRR := Aside0.mk hR
  have HNM := Aside0.mk (show ∀ (k n : Int), mayB k n = true → ∀ W, Below w.heap.size w W → Calls Tryd.prog 41 #[.int .i64 k, .int .i64 n] W _ from fun k n hm W hW => interval_kind_name.calls k n _ W (HT.out.below hW) (name_f hm))
  clear hr hck hf hah hR HR HEC
  go_enter Tryd.func29, Tryd.ntmps29
  go_wp2_with (fail)
  obtain ⟨bx, hbx⟩ : ∃ bx, bx = w.heap.size := ⟨_, rfl⟩
  obtain ⟨w1, hw1⟩ : ∃ w1, w1 = w.alloc (.cells #[.string a0_0, .slice A0_1 n1 c0_1, .slice A0_2 n2 c0_2, .slice A0_3 n3 c0_3, .slice A0_4 n4 c0_4, .slice A0_5 n5 c0_5, .int .i64 a0_6] 24) := ⟨_, rfl⟩
  have HBK := Aside0.mk (show w1.heap[bx]? = some (.cells #[.string a0_0, .slice A0_1 n1 c0_1, .slice A0_2 n2 c0_2, .slice A0_3 n3 c0_3, .slice A0_4 n4 c0_4, .slice A0_5 n5 c0_5, .int .i64 a0_6] 24 (0, 0)) by rw [hw1, hbx]; exact heap_alloc_new w _)
  have HB1 := Aside0.mk (show Below w.heap.size w w1 by rw [hw1]; exact below_alloc (Below.refl _ _) _)
  rw [← hw1, ← hbx]
  clear hw1 hbx
  refine (HCK.out w1 HB1.out).mono ?_
  rintro e w2 ⟨rfl, hb⟩
  have HB2 := Aside0.mk hb
  have hbk2 := (hb.block _ (blk_lt HBK.out)).trans HBK.out
  have cn := (blk_cell hbk2 0).trans rfl
  clear hb HCK hbk2
  go_wp2_with (fail)
  have HO2 := Aside0.mk (Kd.R_lower (row_new w2 [a0_0] (by simp [maxLen])) HB2.out.size)
  have HB2a := Aside0.mk (below_alloc HB2.out (.cells #[.string a0_0] 9))
  refine (of_any bx _).mono ?_
  rintro e w3 ⟨rfl, hb⟩
  have HB3 := Aside0.mk (below_then HB2a.out HB2a.out.size hb)
  have HO3 := Aside0.mk (Kd.R_below HO2.out hb)
  clear hb HB2 HB2a HO2 cn
  go_wp2_with (fail)
  go_loopg [5, 22] 6 (fun kq v5 v22 wr => ∃ (j : Nat) (out : List ByteArray), v22 = .int .i64 (j : Int) ∧ Aside0 (j ≤ 5 ∧ j + kq = 6) ∧ Aside0 (Below w1.heap.size w1 wr) ∧ Aside0 (Kd.R Kd.string 9 wr w1.heap.size (fun _ => True) v5 out) ∧ Aside0 (out.length ≤ j + 1) ∧ Aside0 (Fine (j : Int) ([l0_1, l0_2, l0_3, l0_4, l0_5].drop j)) ∧ Aside0 (out ++ rows (j : Int) ([l0_1, l0_2, l0_3, l0_4, l0_5].drop j) = a0_0 :: rows 0 [l0_1, l0_2, l0_3, l0_4, l0_5]))
  case atStart => exact ⟨0, [a0_0], rfl, ⟨by omega⟩, HB3, HO3, ⟨by simp⟩, HF, ⟨rfl⟩⟩
  case round =>
   clear HB3 HO3 HF
   obtain ⟨j, out, rfl, HJ, HB, HO, HOL, HF, HRW⟩ := hrel
   rename World => wo
   obtain ⟨hj0, hjk⟩ := HJ.out
   have hbk := (HB.out.block _ (blk_lt HBK.out)).trans HBK.out
   by_cases hj : j < 5
   ·cases gk with
    | zero => exact absurd hjk (by omega)
    | succ k1 =>
     have hsel : ∃ A n c l, wo.cell? ⟨bx, j + 1, none⟩ = some (.slice A n c) ∧ Kd.C k37 w A n l ∧ n = l.length ∧ [l0_1, l0_2, l0_3, l0_4, l0_5].drop j = l :: [l0_1, l0_2, l0_3, l0_4, l0_5].drop (j + 1) := by
      have hj' : j = 0 ∨ j = 1 ∨ j = 2 ∨ j = 3 ∨ j = 4 := by omega
      obtain ⟨h1, h2, h3, h4, h5⟩ := HN.out
      rcases hj' with rfl | rfl | rfl | rfl | rfl
      ·exact ⟨_, _, _, l0_1, (blk_cell hbk 1).trans rfl, HC1.out, h1, rfl⟩
      ·exact ⟨_, _, _, l0_2, (blk_cell hbk 2).trans rfl, HC2.out, h2, rfl⟩
      ·exact ⟨_, _, _, l0_3, (blk_cell hbk 3).trans rfl, HC3.out, h3, rfl⟩
      ·exact ⟨_, _, _, l0_4, (blk_cell hbk 4).trans rfl, HC4.out, h4, rfl⟩
      ·exact ⟨_, _, _, l0_5, (blk_cell hbk 5).trans rfl, HC5.out, h5, rfl⟩
     obtain ⟨A, n, c, l, cz, hC, hn, hdr⟩ := hsel
     have HCW := Aside0.mk (Kd.C_below (Kd.C_below hC HB1.out) HB.out)
     have hF := HF.out
     have hRW := HRW.out
     rw [hdr] at hF hRW
     obtain ⟨h8, hrt, hft⟩ := hF
     have H8 := Aside0.mk h8
     have HRT := Aside0.mk hrt
     have HFT := Aside0.mk hft
     have HRW2 := Aside0.mk hRW
     have HLN := Aside0.mk hn
     have h8n : n ≤ 8 := by omega
     clear HF HRW h8 hrt hft hRW hC hn hdr hbk
     have d1 : decide ((j : Int) < 5) = true := decide_eq_true (by omega)
     have d2 : decide (j < 5) = true := decide_eq_true hj
     go_wp2_with (fail)
     go_loopg [9, 31] (n + 1) (fun kq v9 v31 wi => ∃ (i : Nat) (o : List ByteArray), v31 = .int .i64 (i : Int) ∧ Aside0 (i ≤ n ∧ i + kq = n + 1) ∧ Aside0 (Below wo.heap.size wo wi) ∧ Aside0 (Kd.R Kd.string 9 wi wo.heap.size (fun _ => True) v9 o) ∧ Aside0 (o = (l.take i).map (rgB (j : Int))))
     case atStart => exact ⟨0, [], rfl, ⟨by omega⟩, ⟨Below.refl _ _⟩, ⟨Kd.R_nil _ _ _ _ _⟩, ⟨by simp⟩⟩
     case round =>
      obtain ⟨i, o, rfl, HI, HBI, HOI, HOE⟩ := hrel
      obtain ⟨hi0, hik⟩ := HI.out
      by_cases hi : i < n
      ·cases gk with
       | zero => exact absurd hik (by omega)
       | succ k2 =>
        have e1 : decide ((i : Int) < (n : Int)) = true := decide_eq_true (by omega)
        have e2 : decide (i < n) = true := decide_eq_true hi
        obtain ⟨ad, hA, f0, f1⟩ := at_T37 (Kd.C_below HCW.out HBI.out) (i : Int) (by omega) (by omega)
        subst hA
        rw [Int.toNat_natCast] at f0 f1
        obtain ⟨y, hy⟩ : ∃ y, y = rd_T37 l (i : Int) := ⟨_, rfl⟩
        rw [← hy] at f0 f1
        have HY := Aside0.mk hy
        have hry : rightB (j : Int) y.f0 y.f1 = true := HRT.out y (by
         rw [hy]; unfold rd_T37
         have hil : i < l.length := by rw [← HLN.out]; exact hi
         simp [hil])
        have hm0 : mayB (j : Int) y.f0 = true := by unfold rightB at hry; rw [Bool.and_eq_true] at hry; exact hry.1
        have hm1 : mayB (j : Int) y.f1 = true := by unfold rightB at hry; rw [Bool.and_eq_true, Bool.and_eq_true] at hry; exact hry.2.1
        have hbw := below_then HB1.out HB1.out.size (below_then HB.out HB.out.size HBI.out)
        have HN0 := Aside0.mk (HNM.out _ _ hm0 _ (below_alloc hbw (.cells #[.int .i64 y.f0, .int .i64 y.f1] 37)))
        have HN1 := Aside0.mk (fun W (hW : Below wr.heap.size wr W) => HNM.out _ _ hm1 W (below_then hbw hbw.size hW))
        have HRG := Aside0.mk (show rgB (j : Int) y = (if y.f1 = y.f0 then nmB (j : Int) y.f0 else nmB (j : Int) y.f0 ++ ((⟨#[46, 46]⟩ : ByteArray) ++ nmB (j : Int) y.f1)) from rfl)
        have hz0 := nmB_size hm0
        have hz1 := nmB_size hm1
        obtain ⟨s0, hs0⟩ : ∃ s, s = nmB (j : Int) y.f0 := ⟨_, rfl⟩
        obtain ⟨s1, hs1⟩ : ∃ s, s = nmB (j : Int) y.f1 := ⟨_, rfl⟩
        rw [← hs0] at HN0 HRG hz0
        rw [← hs1] at HN1 HRG hz1
        clear hs0 hs1 hry hm0 hm1 hbw hy
        go_wp2_with (fail)
        refine HN0.out.mono ?_
        rintro e w4 ⟨rfl, hb4⟩
        have hp4 : w4.heap[wr.heap.size]? = some (.cells #[.int .i64 y.f0, .int .i64 y.f1] 37 (0, 0)) := (hb4.block _ (by simp)).trans (heap_alloc_new wr _)
        have hb34 := below_then (below_alloc (Below.refl _ wr) (.cells #[.int .i64 y.f0, .int .i64 y.f1] 37)) (by simp) hb4
        have HB34 := Aside0.mk hb34
        have HB4 := Aside0.mk (below_then HBI.out HBI.out.size hb34)
        have HO4 := Aside0.mk (Kd.R_below HOI.out hb34)
        obtain ⟨pp, hpp⟩ : ∃ pp, pp = wr.heap.size := ⟨_, rfl⟩
        rw [← hpp] at hp4 ⊢
        have y0 := (blk_cell hp4 0).trans rfl
        have y1 := (blk_cell hp4 1).trans rfl
        clear hb4 hb34 hpp HN0 f0 f1
        have hol : o.length ≤ 8 := by rw [HOE.out, List.length_map]; exact Nat.le_trans (List.length_take_le _ _) (by omega)
        by_cases hq : y.f1 = y.f0
        ·have q1 : (y.f1 == y.f0) = true := beq_iff_eq.2 hq
         have q2 : (y.f1 != y.f0) = false := bne_eq_false_iff_eq.2 hq
         have hrg := HRG.out
         rw [if_pos hq] at hrg
         have HRG2 := Aside0.mk hrg
         clear HRG hrg hp4
         go_wp2_with ((with_reducible refine gate_builtin (b := .append) (xs := #[.tmp 51, .tmp 53]) rfl ?_); at_builtin; refine Kd.R_append Kd.string (w0 := wo) wo.heap.size rfl (.tmp 51) (.tmp 53) 57 9 (.string ⟨#[]⟩) 16 rfl Tryd.underlying57 info9 rfl (by decide) (by omega) u9 o s0 [.string s0] (fun _ => True) (fun _ => False) rfl rfl rfl (fun _ hk => hk.elim) (fun _ _ => trivial) HO4.out HB4.out (HB4.out).size (by omega) ?_; intro v5' w5 ho5 hb5 hg5 hat5)
         have HB5 := Aside0.mk hb5
         have HO5 := Aside0.mk ho5
         clear ho5 hb5 hg5 hat5
         go_wp2_with (fail)
         go_roundg k2
         case measure => omega
         case rel => exact ⟨i + 1, o ++ [s0], by first | rfl | simp, ⟨by omega⟩, HB5, HO5, ⟨by rw [take_map_step l _ i (by rw [← HLN.out]; exact hi), ← HY.out, HRG2.out, ← HOE.out]⟩⟩
        ·have q1 : (y.f1 == y.f0) = false := beq_eq_false_iff_ne.2 hq
         have q2 : (y.f1 != y.f0) = true := bne_iff_ne.2 hq
         have hrg := HRG.out
         rw [if_neg hq] at hrg
         have HRG2 := Aside0.mk hrg
         clear HRG hrg
         go_wp2_with (fail)
         refine (HN1.out _ HB34.out).mono ?_
         rintro e w5 ⟨rfl, hb5⟩
         have HB5 := Aside0.mk (below_then HB4.out HB4.out.size hb5)
         have HO5 := Aside0.mk (Kd.R_below HO4.out hb5)
         clear hb5 y0 y1 hp4
         have g1 : 2 + s1.size ≤ 9223372036854775807 := by omega
         have g2 : s0.size + (2 + s1.size) ≤ 9223372036854775807 := by omega
         have g3 : (⟨#[46, 46]⟩ : ByteArray).size + s1.size ≤ 9223372036854775807 := g1
         have g4 : s0.size + ((⟨#[46, 46]⟩ : ByteArray) ++ s1).size ≤ 9223372036854775807 := by rw [ByteArray.size_append]; exact g2
         go_wp2_with ((with_reducible refine gate_builtin (b := .append) (xs := #[.tmp 51, .tmp 53]) rfl ?_); at_builtin; refine Kd.R_append Kd.string (w0 := wo) wo.heap.size rfl (.tmp 51) (.tmp 53) 57 9 (.string ⟨#[]⟩) 16 rfl Tryd.underlying57 info9 rfl (by decide) (by omega) u9 o (s0 ++ ((⟨#[46, 46]⟩ : ByteArray) ++ s1)) [.string (s0 ++ ((⟨#[46, 46]⟩ : ByteArray) ++ s1))] (fun _ => True) (fun _ => False) rfl rfl rfl (fun _ hk => hk.elim) (fun _ _ => trivial) HO5.out HB5.out (HB5.out).size (by omega) ?_; intro v6' w6 ho6 hb6 hg6 hat6)
         have HB6 := Aside0.mk hb6
         have HO6 := Aside0.mk ho6
         clear ho6 hb6 hg6 hat6
         go_wp2_with (fail)
         go_roundg k2
         case measure => omega
         case rel => exact ⟨i + 1, o ++ [s0 ++ ((⟨#[46, 46]⟩ : ByteArray) ++ s1)], by first | rfl | simp, ⟨by omega⟩, HB6, HO6, ⟨by rw [take_map_step l _ i (by rw [← HLN.out]; exact hi), ← HY.out, HRG2.out, ← HOE.out]⟩⟩
      ·have e1 : decide ((i : Int) < (n : Int)) = false := decide_eq_false (by omega)
       have e2 : decide (i < n) = false := decide_eq_false hi
       have hin : i = n := by omega
       obtain ⟨A9, c9, h9, _, _⟩ := Kd.R_reads HOI.out
       obtain ⟨m, hm⟩ : ∃ m, m = o.length := ⟨_, rfl⟩
       rw [← hm] at h9
       subst h9
       have hmap : o = l.map (rgB (j : Int)) := by rw [HOE.out, List.take_of_length_le (by rw [← HLN.out]; omega)]
       have hmn : m = n := by rw [hm, hmap, List.length_map, ← HLN.out]
       have HMAP := Aside0.mk hmap
       have HB4 := Aside0.mk (below_then HB.out HB.out.size HBI.out)
       have HO4 := Aside0.mk (Kd.R_below HO.out HBI.out)
       have HM := Aside0.mk hm
       clear hmap hm HOE
       subst hmn
       by_cases hm0 : m = 0
       ·have z1 : decide ((m : Int) > 0) = false := decide_eq_false (by omega)
        have z2 : decide ((0 : Int) < (m : Int)) = false := z1
        have z3 : decide (0 < m) = false := decide_eq_false (by omega)
        have hl : l = [] := List.length_eq_zero_iff.1 (by rw [← HLN.out]; omega)
        have HRW3 := Aside0.mk HRW2.out
        rw [hl, rows, if_pos rfl, List.nil_append] at HRW3
        have HL := Aside0.mk hl
        clear hl
        go_wp2_with (fail)
        go_roundg k1
        case measure => omega
        case rel => exact ⟨j + 1, out, by first | rfl | simp, ⟨by omega⟩, HB4, HO4, ⟨by have := HOL.out; omega⟩, HFT, HRW3⟩
       ·have z1 : decide ((m : Int) > 0) = true := decide_eq_true (by omega)
        have z2 : decide ((0 : Int) < (m : Int)) = true := z1
        have z3 : decide (0 < m) = true := decide_eq_true (by omega)
        have hl : ¬ l = [] := fun h => by have := HLN.out; rw [h] at this; simp at this; omega
        have HRW3 := Aside0.mk HRW2.out
        rw [rows, if_neg hl, ← List.append_assoc] at HRW3
        have hszs : ∀ x ∈ o, x.size ≤ 44 := fun x hx => by
         rw [HMAP.out] at hx
         obtain ⟨y, hy, rfl⟩ := List.mem_map.1 hx
         exact rgB_size (HRT.out y hy)
        have h44 : (⟨#[44]⟩ : ByteArray).size = 1 := rfl
        have HJN := Aside0.mk (fun W (hW : Below wr.heap.size wr W) => SJoin.calls _ o ⟨#[44]⟩ _ W (Kd.R_below HOI.out hW) (join_f o ⟨#[44]⟩ 44 hszs (by rw [← HM.out]; omega) (by rw [h44]; omega)))
        have hjs := joinB_le o ⟨#[44]⟩ 44 hszs
        rw [h44, ← HM.out] at hjs
        have hws := wordB_size (j : Int)
        have hrow : rowB (j : Int) l = (wordB (j : Int) ++ (⟨#[61]⟩ : ByteArray)) ++ joinB o ⟨#[44]⟩ := by rw [HMAP.out]; rfl
        have HROW := Aside0.mk hrow
        have HWD := Aside0.mk (fun W => interval_kind_word.calls (j : Int) _ W (word_f (j : Int)))
        obtain ⟨wb, hwb⟩ : ∃ x, x = wordB (j : Int) := ⟨_, rfl⟩
        obtain ⟨jb, hjb⟩ : ∃ x, x = joinB o ⟨#[44]⟩ := ⟨_, rfl⟩
        rw [← hwb] at HROW HWD hws
        rw [← hjb] at HROW HJN hjs
        clear hl hszs hrow hwb hjb
        have hjs2 : jb.size ≤ 400 := by omega
        clear hjs
        go_wp2_with (fail)
        refine (HWD.out _).mono ?_
        rintro e w5 ⟨rfl, hd⟩
        have HB5 := Aside0.mk hd.below
        clear hd
        have g1 : wb.size + 1 ≤ 9223372036854775807 := by omega
        have g2 : wb.size + 1 + jb.size ≤ 9223372036854775807 := by omega
        have g3 : (wb ++ (⟨#[61]⟩ : ByteArray)).size + jb.size ≤ 9223372036854775807 := by rw [ByteArray.size_append]; exact g2
        go_wp2_with (fail)
        refine (HJN.out _ HB5.out).mono ?_
        rintro e w6 ⟨rfl, hb6⟩
        have hb46 := below_then HB5.out HB5.out.size hb6
        have HB6 := Aside0.mk (below_then HB4.out HB4.out.size hb46)
        have HO6 := Aside0.mk (Kd.R_below HO4.out hb46)
        clear hb6 hb46
        have hol := HOL.out
        go_wp2_with ((with_reducible refine gate_builtin (b := .append) (xs := #[.tmp 59, .tmp 66]) rfl ?_); at_builtin; refine Kd.R_append Kd.string (w0 := w1) w1.heap.size rfl (.tmp 59) (.tmp 66) 57 9 (.string ⟨#[]⟩) 16 rfl Tryd.underlying57 info9 rfl (by decide) (by omega) u5 out ((wb ++ (⟨#[61]⟩ : ByteArray)) ++ jb) [.string ((wb ++ (⟨#[61]⟩ : ByteArray)) ++ jb)] (fun _ => True) (fun _ => False) rfl rfl rfl (fun _ hk => hk.elim) (fun _ _ => trivial) HO6.out HB6.out (HB6.out).size (by omega) ?_; intro v7' w7 ho7 hb7 hg7 hat7)
        have HB7 := Aside0.mk hb7
        have HO7 := Aside0.mk ho7
        clear ho7 hb7 hg7 hat7
        go_wp2_with (fail)
        go_roundg k1
        case measure => omega
        case rel => exact ⟨j + 1, out ++ [(wb ++ (⟨#[61]⟩ : ByteArray)) ++ jb], by first | rfl | simp, ⟨by omega⟩, HB7, HO7, ⟨by rw [List.length_append, List.length_singleton]; omega⟩, HFT, ⟨by rw [← HROW.out]; exact HRW3.out⟩⟩
   ·have d1 : decide ((j : Int) < 5) = false := decide_eq_false (by omega)
    have d2 : decide (j < 5) = false := decide_eq_false hj
    have c6 := (blk_cell hbk 6).trans rfl
    obtain rfl : j = 5 := by omega
    have hrw : out = a0_0 :: rows 0 [l0_1, l0_2, l0_3, l0_4, l0_5] := by
     have := HRW.out
     rw [show List.drop 5 [l0_1, l0_2, l0_3, l0_4, l0_5] = [] from rfl, rows, List.append_nil] at this
     exact this
    have HRW2 := Aside0.mk hrw
    have hF0 : Fine 0 [l0_1, l0_2, l0_3, l0_4, l0_5] := HF0.out
    have hszo : ∀ x ∈ out, x.size ≤ 400 := fun x hx => by
     rw [HRW2.out] at hx
     rcases List.mem_cons.1 hx with rfl | hx
     ·have := HSZ.out; omega
     ·exact (rows_size 0 _ hF0).2 x hx
    have HSO := Aside0.mk hszo
    have hol := HOL.out
    clear hrw HRW HF hF0 hszo hbk
    have h32 : (⟨#[32]⟩ : ByteArray).size = 1 := rfl
    by_cases ha : a0_6 = 0
    ·have q1 : (a0_6 == 0) = true := beq_iff_eq.2 ha
     have q2 : (a0_6 != 0) = false := bne_eq_false_iff_eq.2 ha
     have HJN := Aside0.mk (fun W (hW : Below wo.heap.size wo W) => SJoin.calls u5 out ⟨#[32]⟩ R W (Kd.R_below HO.out hW) (by
      rw [HRR.out, partsB, if_pos ha, List.append_nil, ← HRW2.out]
      exact join_f out ⟨#[32]⟩ 400 HSO.out (by omega) (by rw [h32]; omega)))
     have HBZ := Aside0.mk (below_then HB1.out HB1.out.size HB.out)
     clear ha
     go_wp2_with (fail)
     refine (HJN.out _ (Below.refl _ _)).mono ?_
     rintro e w6 ⟨rfl, hb6⟩
     have HB6 := Aside0.mk (below_then HBZ.out HBZ.out.size hb6)
     clear hb6
     go_wp2_with (fail)
     go_ret2
     exact ⟨rfl, HB6.out⟩
    ·have q1 : (a0_6 == 0) = false := beq_eq_false_iff_ne.2 ha
     have q2 : (a0_6 != 0) = true := bne_iff_ne.2 ha
     have hah := HAH.out
     have HBZ := Aside0.mk (below_then HB1.out HB1.out.size HB.out)
     have HIT := Aside0.mk (SItoa.calls a0_6 ⟨(Lib.itoa a0_6).toArray⟩ wo (HT.out.below HBZ.out) (by unfold SItoa.f; rw [if_pos (by omega)]))
     have his : (⟨(Lib.itoa a0_6).toArray⟩ : ByteArray).size ≤ 21 := Lib.itoa_length_le a0_6 (by omega) (by omega)
     have hab : aheadB a0_6 = (⟨#[97, 104, 101, 97, 100, 61]⟩ : ByteArray) ++ ⟨(Lib.itoa a0_6).toArray⟩ := rfl
     have HA := Aside0.mk ha
     obtain ⟨ib, hib⟩ : ∃ x, x = (⟨(Lib.itoa a0_6).toArray⟩ : ByteArray) := ⟨_, rfl⟩
     rw [← hib] at HIT his hab
     have HAB := Aside0.mk hab
     clear hib hab ha
     go_wp2_with (fail)
     refine HIT.out.mono ?_
     rintro e w6 ⟨rfl, hb6⟩
     have HB6 := Aside0.mk (below_then HB.out HB.out.size hb6)
     have HO6 := Aside0.mk (Kd.R_below HO.out hb6)
     clear hb6
     have g1 : 6 + ib.size ≤ 9223372036854775807 := by omega
     have g2 : (⟨#[97, 104, 101, 97, 100, 61]⟩ : ByteArray).size + ib.size ≤ 9223372036854775807 := g1
     go_wp2_with ((with_reducible refine gate_builtin (b := .append) (xs := #[.tmp 72, .tmp 77]) rfl ?_); at_builtin; refine Kd.R_append Kd.string (w0 := w1) w1.heap.size rfl (.tmp 72) (.tmp 77) 57 9 (.string ⟨#[]⟩) 16 rfl Tryd.underlying57 info9 rfl (by decide) (by omega) u5 out ((⟨#[97, 104, 101, 97, 100, 61]⟩ : ByteArray) ++ ib) [.string ((⟨#[97, 104, 101, 97, 100, 61]⟩ : ByteArray) ++ ib)] (fun _ => True) (fun _ => False) rfl rfl rfl (fun _ hk => hk.elim) (fun _ _ => trivial) HO6.out HB6.out (HB6.out).size (by omega) ?_; intro v7' w7 ho7 hb7 hg7 hat7)
     have HB7 := Aside0.mk hb7
     have HO7 := Aside0.mk ho7
     clear ho7 hb7 hg7 hat7
     have HJN := Aside0.mk (SJoin.calls v7' (out ++ [(⟨#[97, 104, 101, 97, 100, 61]⟩ : ByteArray) ++ ib]) ⟨#[32]⟩ R w7 HO7.out (by
      rw [HRR.out, partsB, if_neg HA.out, ← List.cons_append, ← HRW2.out, HAB.out]
      refine join_f _ ⟨#[32]⟩ 400 (fun x hx => ?_) (by rw [List.length_append, List.length_singleton]; omega) (by rw [h32]; omega)
      rcases List.mem_append.1 hx with hx | hx
      ·exact HSO.out x hx
      ·rw [List.mem_singleton] at hx
       subst hx
       rw [ByteArray.size_append]
       have : (⟨#[97, 104, 101, 97, 100, 61]⟩ : ByteArray).size = 6 := rfl
       omega))
     go_wp2_with (fail)
     refine HJN.out.mono ?_
     rintro e w8 ⟨rfl, hb8⟩
     have HB8 := Aside0.mk (below_then HB1.out HB1.out.size (below_then HB7.out HB7.out.size hb8))
     clear hb8
     go_wp2_with (fail)
     go_ret2
     exact ⟨rfl, HB8.out⟩
 ·have hr := HR.out
  rw [if_neg he] at hr
  obtain ⟨rfl, rfl⟩ : (⟨#[]⟩ : ByteArray) = r1 ∧ ec = r2 := by simpa using hr
  have q1 : (ec == 0) = false := beq_eq_false_iff_ne.2 he
  have q2 : (ec != 0) = true := bne_iff_ne.2 he
  clear hr HR HEC
  go_enter Tryd.func29, Tryd.ntmps29
  go_wp2_with (fail)
  refine (HCK.out _ (below_alloc (Below.refl _ _) _)).mono ?_
  rintro e w2 ⟨rfl, hb⟩
  have HB := Aside0.mk (below_then (below_alloc (Below.refl w.heap.size w) (.cells #[.string a0_0, .slice A0_1 n1 c0_1, .slice A0_2 n2 c0_2, .slice A0_3 n3 c0_3, .slice A0_4 n4 c0_4, .slice A0_5 n5 c0_5, .int .i64 a0_6] 24)) (by simp) hb)
  clear hb HCK
  go_wp2_with (fail)
  go_ret2
  exact ⟨rfl, HB.out⟩
end Go.Proofs.YtgipdacenppmdaaDoor.G
