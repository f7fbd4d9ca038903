/- QueueRoom: the walk. -/
import Derived.Test.YtmifpookhhkgeaaDoorQY
import Derived.Test.YtmifpookhhkgeaaDoorQW
import Derived.Test.YtmifpookhhkgeaaDoorReg5
set_option linter.unusedVariables false
set_option linter.unusedSimpArgs false
namespace Go.Proofs.YtmifpookhhkgeaaDoor.Q
open Go.RowKit Go.Lib Go.Proofs.YtmifpookhhkgeaaDoorW.PrintWords Go.Proofs.YtmifpookhhkgeaaDoorW.PrintMore Go.Proofs.YtmifpookhhkgeaaDoorW.PrintLast Go.Proofs.YtmifpookhhkgeaaDoor.P Go.Proofs.YtmifpookhhkgeaaDoor.G
/-- Whether two entries are one, as the program's '==' says it. -/
def eqB (a b : S27) : Bool := a.f0.toList == b.f0.toList && (a.f1 == b.f1 && (a.f2 == b.f2 && (a.f3.toList == b.f3.toList && (a.f4 == b.f4))))
theorem eqB_self (a : S27) : eqB a a = true := by simp [eqB]
def sumSz : List S27 → Int
  | [] => 0
  | e :: t => sizeE e + sumSz t
theorem sumSz_snoc (l : List S27) (e : S27) : sumSz (l ++ [e]) = sumSz l + sizeE e := by
  induction l with
  | nil => simp [sumSz]
  | cons a t ih => simp only [List.cons_append, sumSz, ih]; omega
theorem sumSz_pos (l : List S27) (h : ∀ e ∈ l, checkC e = 0) : 0 ≤ sumSz l := by
  induction l with
  | nil => simp [sumSz]
  | cons a t ih =>
    have h1 := size_rng (h a (by simp))
    have h2 := ih (fun e he => h e (List.mem_cons_of_mem _ he))
    simp only [sumSz]
    omega
theorem sumSz_take_le (l : List S27) (h : ∀ e ∈ l, checkC e = 0) (i : Nat) : sumSz (l.take i) ≤ sumSz l ∧ 0 ≤ sumSz (l.take i) := by
  have h1 := sumSz_pos (l.drop i) (fun e he => h e (List.mem_of_mem_drop he))
  have h2 := sumSz_pos (l.take i) (fun e he => h e (List.mem_of_mem_take he))
  have h3 : sumSz (l.take i ++ l.drop i) = sumSz (l.take i) + sumSz (l.drop i) := by
    generalize l.take i = a
    induction a with
    | nil => simp [sumSz]
    | cons x t ih => simp only [List.cons_append, sumSz, ih]; omega
  rw [List.take_append_drop] at h3
  omega
theorem takeL_sum (limit : Int) (l : List S47) (h : ∀ x ∈ l, checkC x.f0 = 0) (room : Int) (hr : 0 ≤ room) :
    sumSz (takeL l room limit).1 ≤ room ∧ (∀ e ∈ (takeL l room limit).1, checkC e = 0) ∧ ∀ x ∈ l, x.f0 ∈ (takeL l room limit).1 ∨ room - sumSz (takeL l room limit).1 < sizeE x.f0 := by
  induction l generalizing room with
  | nil => simp [takeL, sumSz, hr]
  | cons x t ih =>
    have hx := h x (by simp)
    have hs := size_rng hx
    have ht : ∀ y ∈ t, checkC y.f0 = 0 := fun y hy => h y (List.mem_cons_of_mem _ hy)
    rw [takeL_cons]
    by_cases hle : sizeE x.f0 ≤ room
    · rw [if_pos hle]
      obtain ⟨h1, h2, h3⟩ := ih ht (room - sizeE x.f0) (by omega)
      simp only [sumSz]
      refine ⟨by omega, fun e he => ?_, fun y hy => ?_⟩
      · rcases List.mem_cons.1 he with rfl | he
        · exact hx
        · exact h2 e he
      · rcases List.mem_cons.1 hy with rfl | hy
        · exact .inl (by simp)
        · rcases h3 y hy with h4 | h4
          · exact .inl (List.mem_cons_of_mem _ h4)
          · exact .inr (by omega)
    · rw [if_neg hle]
      obtain ⟨h1, h2, h3⟩ := ih ht room hr
      refine ⟨h1, h2, fun y hy => ?_⟩
      rcases List.mem_cons.1 hy with rfl | hy
      · exact .inr (by have := sumSz_pos _ h2; show room - sumSz (takeL t room limit).1 < sizeE y.f0; omega)
      · exact h3 y hy
theorem takeL_keep (limit : Int) (l : List S47) (h : ∀ x ∈ l, x.f1 + 1 < limit) (room : Int) : (takeL l room limit).2.length = l.length := by
  induction l generalizing room with
  | nil => rfl
  | cons x t ih =>
    have hx := h x (by simp)
    have ht : ∀ y ∈ t, y.f1 + 1 < limit := fun y hy => h y (List.mem_cons_of_mem _ hy)
    rw [takeL_cons]
    by_cases hle : sizeE x.f0 ≤ room
    · rw [if_pos hle, if_neg (by omega)]
      simp [ih ht]
    · rw [if_neg hle]
      simp [ih ht]
attribute [local go_sem high] eqA27
set_option maxHeartbeats 8000000 in
set_option maxRecDepth 100000 in
theorem room_any (A : Option Addr) (c : Nat) (l0 : List S42) (room : Int) (W0 : World) (hC : Kd.C k42 W0 A l0.length l0) (hc : l0.length ≤ c) (hok : ActsOk l0) (hT : TabS W0) (hr0 : 0 ≤ room) (hr1 : room ≤ 65535) :
    Calls Tryd.prog 4 #[.slice A l0.length c, .int .u16 room] W0 fun e w' => e = .returned (.bool true) ∧ Below W0.heap.size W0 w' := by
  have hwr : wrap64 room = room := by unfold wrap64; omega
  have HC := Aside0.mk hC
  have HT := Aside0.mk hT
  have HOK := Aside0.mk hok
  obtain ⟨n, hn⟩ : ∃ n, n = l0.length := ⟨_, rfl⟩
  rw [← hn] at hc ⊢
  have HN := Aside0.mk hn
  clear hC hT hok hn
  by_cases hbig : (n : Int) > 120
  · have hb1 : decide ((n : Int) > 120) = true := decide_eq_true hbig
    have hb2 : decide ((120 : Int) < (n : Int)) = true := hb1
    have hb3 : decide (120 < n) = true := decide_eq_true (by omega)
    go_enter Tryd.func4, Tryd.ntmps4
    go_wp2_with (fail)
    refine (awake_any W0 HT.out).mono ?_
    rintro e w1 ⟨rfl, hb⟩
    have HB := Aside0.mk hb
    clear hb
    go_wp2_with (fail)
    go_ret
    exact ⟨rfl, HB.out⟩
  · have hb1 : decide ((n : Int) > 120) = false := decide_eq_false hbig
    have hb2 : decide ((120 : Int) < (n : Int)) = false := hb1
    have hb3 : decide (120 < n) = false := decide_eq_false (by omega)
    have hn120 : n ≤ 120 := by omega
    go_enter Tryd.func4, Tryd.ntmps4
    go_wp2_with (fail)
    refine (new_any W0.heap.size W0 (Nat.le_refl _)).mono ?_
    rintro e w1 ⟨g, rfl, hq, hg, hbl⟩
    have HS1 := Aside0.mk (show St W0 w1 g (.slice none 0 0) (.slice none 0 0) [] [] 0 0 0 from ⟨hq, Kd.R_nil _ _ _ _ _, Inv.start, hbl⟩)
    clear hq hg hbl hb1 hb2 hb3 hbig
    go_wp2_with (fail)
    obtain ⟨bx, hbx0⟩ : ∃ bx, bx = w1.heap.size := ⟨_, rfl⟩
    obtain ⟨w2, hw2⟩ : ∃ w2, w2 = w1.alloc (.cells #[.slice none 0 0, .int .i64 0, .int .i64 0] 38) := ⟨_, rfl⟩
    have HBK := Aside0.mk (show w2.heap[bx]? = some (.cells #[.slice none 0 0, .int .i64 0, .int .i64 0] 38 (0, 0)) by rw [hw2, hbx0]; exact heap_alloc_new w1 _)
    have HS2 := Aside0.mk (HS1.out.below (show Below w1.heap.size w1 w2 by rw [hw2]; exact below_alloc (Below.refl _ _) _))
    have hbx : W0.heap.size ≤ bx := by rw [hbx0]; exact HS1.out.low.size
    try rw [← hw2]
    try rw [← hbx0]
    clear hbx0 hw2 HS1
    go_loopg [7] (n + 1) (fun kq v7 wr => ∃ (j : Nat) (v : Value) (A0 : Option Addr) (n0 c0 : Nat) (l L : List S47) (cm0 lo0 : Int), v7 = .int .i64 (j : Int) ∧ Aside0 (j ≤ n ∧ j + kq = n + 1) ∧ Aside0 (St W0 wr g v (.slice A0 n0 c0) l L cm0 lo0 j) ∧ Aside0 (wr.heap[bx]? = some (.cells #[.slice A0 n0 c0, .int .i64 cm0, .int .i64 lo0] 38 (0, 0))))
    case atStart => exact ⟨0, _, none, 0, 0, [], [], 0, 0, rfl, ⟨by omega⟩, HS2, HBK⟩
    case round =>
      clear HS2 HBK
      obtain ⟨j, v, A0, n0, c0, l, L, cm0, lo0, rfl, HJ, HS, HBK⟩ := hrel
      obtain ⟨hj0, hjk⟩ := HJ.out
      by_cases hlt : j < n
      · cases gk with
        | zero => exact absurd hjk (by omega)
        | succ k1 =>
          have hlt1 : decide ((j : Int) < (n : Int)) = true := decide_eq_true (by omega)
          have hlt2 : decide (j < n) = true := decide_eq_true hlt
          obtain ⟨ad, hA, y, hye, f0, f1, f2, f3, f4, f5, f6, f7⟩ := at_T42 HC.out j (by have := HN.out; omega)
          subst hA
          have hyok : y.f2 ≤ 9223372036854775807 := by rw [hye]; exact HOK.out _ (List.getElem_mem _)
          clear hye
          obtain ⟨wd, hwd⟩ : ∃ wd, wd = wr.drew := ⟨_, rfl⟩
          have HD := Aside0.mk (show Below wr.heap.size wr wd by rw [hwd]; exact (Below.refl _ _).drew)
          have HWD := Aside0.mk hwd
          clear hwd
          go_wp2_with (fail)
          have HSD := Aside0.mk (HS.out.below HD.out)
          have hbk := (HD.out.block _ (blk_lt HBK.out)).trans HBK.out
          have hB := HSD.out.low
          replace f0 := (hB.cell (World.block_lt_of_cell? W0 _ f0)).trans f0
          replace f1 := (hB.cell (World.block_lt_of_cell? W0 _ f1)).trans f1
          replace f2 := (hB.cell (World.block_lt_of_cell? W0 _ f2)).trans f2
          replace f3 := (hB.cell (World.block_lt_of_cell? W0 _ f3)).trans f3
          replace f4 := (hB.cell (World.block_lt_of_cell? W0 _ f4)).trans f4
          replace f5 := (hB.cell (World.block_lt_of_cell? W0 _ f5)).trans f5
          replace f6 := (hB.cell (World.block_lt_of_cell? W0 _ f6)).trans f6
          replace f7 := (hB.cell (World.block_lt_of_cell? W0 _ f7)).trans f7
          have cz := (blk_cell hbk 0).trans rfl
          have cy := (blk_cell hbk 1).trans rfl
          have cx := (blk_cell hbk 2).trans rfl
          have hdo := do_st HSD.out y HT.out (by omega) hyok hbk
          unfold enc42 at hdo
          have HDO := Aside0.mk hdo
          clear hdo hbk hB HSD HS HBK HD
          refine Reg.region_pivot (Γ := (Value) × (Option Addr) × (Nat) × (Nat) × (List S47) × (List S47) × (Int) × (Int)) hmix [some 28, some 29, some 30, some 31, some 32, some 33, some 34, some 27, some 35, some 36, none] [[], [], [], [], [2, 3], [4], [0, 1, 5], [6], [7], [7], [8, 6, 0, 1, 2, 3, 4, 5, 6, 7, 8]] 6 10 [0, 1, 2, 3, 4, 5] (fun w => w = wd) (fun γ d w => St W0 w g γ.1 (.slice γ.2.1 γ.2.2.1 γ.2.2.2.1) γ.2.2.2.2.1 γ.2.2.2.2.2.1 γ.2.2.2.2.2.2.1 γ.2.2.2.2.2.2.2 (j + 1) ∧ w.heap[bx]? = some (.cells #[bif d then .slice γ.2.1 γ.2.2.1 γ.2.2.2.1 else .slice A0 n0 c0, bif d then .int .i64 γ.2.2.2.2.2.2.1 else .int .i64 cm0, bif d then .int .i64 γ.2.2.2.2.2.2.2 else .int .i64 lo0] 38 (0, 0))) [(fun v => v = (.pointer (some ⟨g, 0, none⟩) : Value)), (fun v => v = (.agg #[.slice A0 n0 c0, .int .i64 cm0, .int .i64 lo0] : Value)), (fun v => v = (.slice (some ad) n c : Value)), (fun v => v = (.int .i64 (j : Int) : Value)), (fun v => v = (.pointer (some (ad.add (j * 8))) : Value)), (fun v => v = (.agg #[.bool y.f0, .string y.f1.f0, .int .i64 y.f1.f1, .int .u16 y.f1.f2, .string y.f1.f3, .int .i64 y.f1.f4, .int .i64 y.f2, .int .i64 y.f3] : Value)), (fun _ => False), (fun _ => False), (fun _ => False), (fun _ => False), (fun _ => False)] (fun γ => [(fun v => v = (.pointer (some ⟨g, 0, none⟩) : Value)), (fun v => v = (.agg #[.slice A0 n0 c0, .int .i64 cm0, .int .i64 lo0] : Value)), (fun v => v = (.slice (some ad) n c : Value)), (fun v => v = (.int .i64 (j : Int) : Value)), (fun v => v = (.pointer (some (ad.add (j * 8))) : Value)), (fun v => v = (.agg #[.bool y.f0, .string y.f1.f0, .int .i64 y.f1.f1, .int .u16 y.f1.f2, .string y.f1.f3, .int .i64 y.f1.f4, .int .i64 y.f2, .int .i64 y.f3] : Value)), (fun v => v = (.tuple #[.agg #[.slice γ.2.1 γ.2.2.1 γ.2.2.2.1, .int .i64 γ.2.2.2.2.2.2.1, .int .i64 γ.2.2.2.2.2.2.2], .bool true] : Value)), (fun v => v = (.tuple #[.agg #[.slice γ.2.1 γ.2.2.1 γ.2.2.2.1, .int .i64 γ.2.2.2.2.2.2.1, .int .i64 γ.2.2.2.2.2.2.2], .bool true] : Value)), (fun v => v = (.agg #[.slice γ.2.1 γ.2.2.1 γ.2.2.2.1, .int .i64 γ.2.2.2.2.2.2.1, .int .i64 γ.2.2.2.2.2.2.2] : Value)), (fun v => v = (.bool true : Value)), (fun v => True)]) rfl (by kernel_rfl) (by kernel_rfl) (fun γ => Reg.imp_cons (fun _ h => h) (Reg.imp_cons (fun _ h => h) (Reg.imp_cons (fun _ h => h) (Reg.imp_cons (fun _ h => h) (Reg.imp_cons (fun _ h => h) (Reg.imp_cons (fun _ h => h) (Reg.imp_cons (fun _ h => h.elim) (Reg.imp_cons (fun _ h => h.elim) (Reg.imp_cons (fun _ h => h.elim) (Reg.imp_cons (fun _ h => h.elim) (Reg.imp_cons (fun _ h => h.elim) (Reg.imp_nil (γ := True))))))))))))) (HWD.out.symm) ?hs ?he
          case hs =>
            intro xs0 xs hx0 hl0_
            clear hx0
            obtain ⟨x0, xs1, rfl, hl1⟩ := Reg.len_succ hl0_
            obtain ⟨x1, xs2, rfl, hl2⟩ := Reg.len_succ hl1
            obtain ⟨x2, xs3, rfl, hl3⟩ := Reg.len_succ hl2
            obtain ⟨x3, xs4, rfl, hl4⟩ := Reg.len_succ hl3
            obtain ⟨x4, xs5, rfl, hl5⟩ := Reg.len_succ hl4
            obtain ⟨x5, xs6, rfl, hl6⟩ := Reg.len_succ hl5
            obtain ⟨x6, xs7, rfl, hl7⟩ := Reg.len_succ hl6
            obtain ⟨x7, xs8, rfl, hl8⟩ := Reg.len_succ hl7
            obtain ⟨x8, xs9, rfl, hl9⟩ := Reg.len_succ hl8
            obtain ⟨x9, xs10, rfl, hl10⟩ := Reg.len_succ hl9
            obtain ⟨x10, xs11, rfl, hl11⟩ := Reg.len_succ hl10
            obtain rfl := List.eq_nil_of_length_eq_zero hl11
            clear hl0_ hl1 hl2 hl3 hl4 hl5 hl6 hl7 hl8 hl9 hl10 hl11
            simp only [Reg.putL, Act.put, List.setIfInBounds_toArray, List.set_cons_succ, List.set_cons_zero]
            refine ⟨fun wr hG hf _ => ?_, ?_⟩
            · skip
              replace hG : wr = wd := hG
              clear hf
              refine .inl ⟨by rfl, ?_⟩
              simp only [Reg.ung]
              subst hG
              go_wp2; exact ⟨_, rfl, rfl, rfl⟩
            refine ⟨fun wr hG hf _ => ?_, ?_⟩
            · skip
              replace hG : wr = wd := hG
              clear hf
              refine .inl ⟨by rfl, ?_⟩
              simp only [Reg.ung]
              subst hG
              go_wp2; exact ⟨_, rfl, rfl, rfl⟩
            refine ⟨fun wr hG hf _ => ?_, ?_⟩
            · skip
              replace hG : wr = wd := hG
              clear hf
              refine .inl ⟨by rfl, ?_⟩
              simp only [Reg.ung]
              subst hG
              go_wp2; exact ⟨_, rfl, rfl, rfl⟩
            refine ⟨fun wr hG hf _ => ?_, ?_⟩
            · skip
              replace hG : wr = wd := hG
              clear hf
              refine .inl ⟨by rfl, ?_⟩
              simp only [Reg.ung]
              subst hG
              go_wp2; exact ⟨_, rfl, rfl, rfl⟩
            refine ⟨fun wr hG hf _ => ?_, ?_⟩
            · skip
              replace hG : wr = wd := hG
              obtain ⟨hq0, hq1, -⟩ := hf
              obtain rfl : x2 = (.slice (some ad) n c : Value) := hq0
              obtain rfl : x3 = (.int .i64 (j : Int) : Value) := hq1
              refine .inl ⟨by rfl, ?_⟩
              simp only [Reg.ung]
              subst hG
              go_wp2; exact ⟨_, rfl, rfl, rfl⟩
            refine ⟨fun wr hG hf _ => ?_, ?_⟩
            · skip
              replace hG : wr = wd := hG
              obtain ⟨hq0, -⟩ := hf
              obtain rfl : x4 = (.pointer (some (ad.add (j * 8))) : Value) := hq0
              refine .inl ⟨by rfl, ?_⟩
              simp only [Reg.ung]
              subst hG
              go_wp2; exact ⟨_, rfl, rfl, rfl⟩
            refine ⟨fun wr hG hf _ => ?_, ?_⟩
            · skip
              replace hG : wr = wd := hG
              obtain ⟨hq0, hq1, hq2, -⟩ := hf
              obtain rfl : x0 = (.pointer (some ⟨g, 0, none⟩) : Value) := hq0
              obtain rfl : x1 = (.agg #[.slice A0 n0 c0, .int .i64 cm0, .int .i64 lo0] : Value) := hq1
              obtain rfl : x5 = (.agg #[.bool y.f0, .string y.f1.f0, .int .i64 y.f1.f1, .int .u16 y.f1.f2, .string y.f1.f3, .int .i64 y.f1.f4, .int .i64 y.f2, .int .i64 y.f3] : Value) := hq2
              refine .inl ⟨by rfl, ?_⟩
              simp only [Reg.ung]
              subst hG
              go_wp2_with ((go_at_call 15; refine HDO.out.mono ?_; rintro e w' ⟨v1, A1, n1, c1, l1, L1, cm1, lo1, rfl, hS1, hk1⟩)); exact ⟨_, rfl, ⟨v1, A1, n1, c1, l1, L1, cm1, lo1⟩, ⟨hS1, hk1⟩, rfl⟩
            refine ⟨fun γ d wr hG hf _ => ?_, ?_⟩
            · skip
              obtain ⟨v1, A1, n1, c1, l1, L1, cm1, lo1⟩ := γ
              replace hG : St W0 wr g v1 (.slice A1 n1 c1) l1 L1 cm1 lo1 (j + 1) ∧ wr.heap[bx]? = some (.cells #[bif d then .slice A1 n1 c1 else .slice A0 n0 c0, bif d then .int .i64 cm1 else .int .i64 cm0, bif d then .int .i64 lo1 else .int .i64 lo0] 38 (0, 0)) := hG
              obtain ⟨hq0, -⟩ := hf
              obtain rfl : x6 = (.tuple #[.agg #[.slice A1 n1 c1, .int .i64 cm1, .int .i64 lo1], .bool true] : Value) := hq0
              refine .inl ⟨by rfl, ?_⟩
              simp only [Reg.ung]
              go_wp2
              exact ⟨_, rfl, by simpa using hG, rfl⟩
            refine ⟨fun γ d wr hG hf _ => ?_, ?_⟩
            · skip
              obtain ⟨v1, A1, n1, c1, l1, L1, cm1, lo1⟩ := γ
              replace hG : St W0 wr g v1 (.slice A1 n1 c1) l1 L1 cm1 lo1 (j + 1) ∧ wr.heap[bx]? = some (.cells #[bif d then .slice A1 n1 c1 else .slice A0 n0 c0, bif d then .int .i64 cm1 else .int .i64 cm0, bif d then .int .i64 lo1 else .int .i64 lo0] 38 (0, 0)) := hG
              obtain ⟨hq0, -⟩ := hf
              obtain rfl : x7 = (.tuple #[.agg #[.slice A1 n1 c1, .int .i64 cm1, .int .i64 lo1], .bool true] : Value) := hq0
              refine .inl ⟨by rfl, ?_⟩
              simp only [Reg.ung]
              go_wp2
              exact ⟨_, rfl, by simpa using hG, rfl⟩
            refine ⟨fun γ d wr hG hf _ => ?_, ?_⟩
            · skip
              obtain ⟨v1, A1, n1, c1, l1, L1, cm1, lo1⟩ := γ
              replace hG : St W0 wr g v1 (.slice A1 n1 c1) l1 L1 cm1 lo1 (j + 1) ∧ wr.heap[bx]? = some (.cells #[bif d then .slice A1 n1 c1 else .slice A0 n0 c0, bif d then .int .i64 cm1 else .int .i64 cm0, bif d then .int .i64 lo1 else .int .i64 lo0] 38 (0, 0)) := hG
              obtain ⟨hq0, -⟩ := hf
              obtain rfl : x7 = (.tuple #[.agg #[.slice A1 n1 c1, .int .i64 cm1, .int .i64 lo1], .bool true] : Value) := hq0
              refine .inl ⟨by rfl, ?_⟩
              simp only [Reg.ung]
              go_wp2
              exact ⟨_, rfl, by simpa using hG, rfl⟩
            refine ⟨fun γ d wr hG hf _ => ?_, ?_⟩
            · skip
              obtain ⟨v1, A1, n1, c1, l1, L1, cm1, lo1⟩ := γ
              replace hG : St W0 wr g v1 (.slice A1 n1 c1) l1 L1 cm1 lo1 (j + 1) ∧ wr.heap[bx]? = some (.cells #[bif d then .slice A1 n1 c1 else .slice A0 n0 c0, bif d then .int .i64 cm1 else .int .i64 cm0, bif d then .int .i64 lo1 else .int .i64 lo0] 38 (0, 0)) := hG
              obtain ⟨hq0, -, -, -, -, -, -, -, -, -, -, -⟩ := hf
              obtain rfl : x8 = (.agg #[.slice A1 n1 c1, .int .i64 cm1, .int .i64 lo1] : Value) := hq0
              refine .inl ⟨by rfl, ?_⟩
              simp only [Reg.ung]
              obtain ⟨hS1, hb1⟩ := hG; have cz0 := (blk_cell hb1 0).trans rfl; have cz1 := (blk_cell hb1 1).trans rfl; have cz2 := (blk_cell hb1 2).trans rfl; have fz0 := blk_frozen hb1 0; have fz1 := blk_frozen hb1 1; have fz2 := blk_frozen hb1 2; have HS1 := Aside0.mk hS1; have HB1 := Aside0.mk hb1; clear hS1 hb1; go_wp2; exact ⟨undef, rfl, ⟨HS1.out.g6 ((((G6.refl _ bx).set 0 _).set 1 _).set 2 _) HB1.out hbx, by simpa using blk_put (blk_put (blk_put HB1.out 0 (.slice A1 n1 c1) rfl) 1 (.int .i64 cm1) rfl) 2 (.int .i64 lo1) rfl⟩, trivial⟩
            exact trivial
          case he =>
            intro xs hl0_ γ wr hG hf
            obtain ⟨x0, xs1, rfl, hl1⟩ := Reg.len_succ hl0_
            obtain ⟨x1, xs2, rfl, hl2⟩ := Reg.len_succ hl1
            obtain ⟨x2, xs3, rfl, hl3⟩ := Reg.len_succ hl2
            obtain ⟨x3, xs4, rfl, hl4⟩ := Reg.len_succ hl3
            obtain ⟨x4, xs5, rfl, hl5⟩ := Reg.len_succ hl4
            obtain ⟨x5, xs6, rfl, hl6⟩ := Reg.len_succ hl5
            obtain ⟨x6, xs7, rfl, hl7⟩ := Reg.len_succ hl6
            obtain ⟨x7, xs8, rfl, hl8⟩ := Reg.len_succ hl7
            obtain ⟨x8, xs9, rfl, hl9⟩ := Reg.len_succ hl8
            obtain ⟨x9, xs10, rfl, hl10⟩ := Reg.len_succ hl9
            obtain ⟨x10, xs11, rfl, hl11⟩ := Reg.len_succ hl10
            obtain rfl := List.eq_nil_of_length_eq_zero hl11
            clear hl0_ hl1 hl2 hl3 hl4 hl5 hl6 hl7 hl8 hl9 hl10 hl11
            obtain ⟨v1, A1, n1, c1, l1, L1, cm1, lo1⟩ := γ
            replace hG : St W0 wr g v1 (.slice A1 n1 c1) l1 L1 cm1 lo1 (j + 1) ∧ wr.heap[bx]? = some (.cells #[bif true then .slice A1 n1 c1 else .slice A0 n0 c0, bif true then .int .i64 cm1 else .int .i64 cm0, bif true then .int .i64 lo1 else .int .i64 lo0] 38 (0, 0)) := hG
            obtain ⟨hq0, hq1, hq2, hq3, hq4, hq5, hq6, hq7, hq8, hq9, hq10, -⟩ := hf
            obtain rfl : x0 = (.pointer (some ⟨g, 0, none⟩) : Value) := hq0
            obtain rfl : x1 = (.agg #[.slice A0 n0 c0, .int .i64 cm0, .int .i64 lo0] : Value) := hq1
            obtain rfl : x2 = (.slice (some ad) n c : Value) := hq2
            obtain rfl : x3 = (.int .i64 (j : Int) : Value) := hq3
            obtain rfl : x4 = (.pointer (some (ad.add (j * 8))) : Value) := hq4
            obtain rfl : x5 = (.agg #[.bool y.f0, .string y.f1.f0, .int .i64 y.f1.f1, .int .u16 y.f1.f2, .string y.f1.f3, .int .i64 y.f1.f4, .int .i64 y.f2, .int .i64 y.f3] : Value) := hq5
            obtain rfl : x6 = (.tuple #[.agg #[.slice A1 n1 c1, .int .i64 cm1, .int .i64 lo1], .bool true] : Value) := hq6
            obtain rfl : x7 = (.tuple #[.agg #[.slice A1 n1 c1, .int .i64 cm1, .int .i64 lo1], .bool true] : Value) := hq7
            obtain rfl : x8 = (.agg #[.slice A1 n1 c1, .int .i64 cm1, .int .i64 lo1] : Value) := hq8
            obtain rfl : x9 = (.bool true : Value) := hq9
            replace hq10 : True := hq10
            simp only [Reg.putL, Act.put, List.setIfInBounds_toArray, List.set_cons_succ, List.set_cons_zero]
            simp only [cond_true] at hG; obtain ⟨hS1, hb1⟩ := hG
            have HS1 := Aside0.mk hS1
            have HB1 := Aside0.mk hb1
            clear hS1 hb1 HDO f0 f1 f2 f3 f4 f5 f6 f7 cz cy cx
            go_wp2_with (fail)
            go_roundg k1
            case measure => omega
            case rel => exact ⟨j + 1, v1, A1, n1, c1, l1, L1, cm1, lo1, by first | rfl | simp | (simp; unfold wrap64; omega), ⟨by have := HJ.out; omega⟩, HS1, HB1⟩
      · have hlt1 : decide ((j : Int) < (n : Int)) = false := decide_eq_false (by omega)
        have hlt2 : decide (j < n) = false := decide_eq_false hlt
        have hj120 : j ≤ 120 := by omega
        clear HJ hj0 hjk hlt
        go_wp2_with (fail)
        obtain ⟨wL, rfl⟩ : ∃ wL, wL = wr := ⟨_, rfl⟩
        have hlL : l.length ≤ 32 := by rw [HS.out.inv.perm.length_eq]; exact HS.out.inv.len
        refine (list_any W0.heap.size g v l cm0 lo0 wL HS.out.q (by omega)).mono ?_
        rintro e w5 ⟨v2, l', rfl, hp, hso, hr2, hb5⟩
        obtain rfl := HS.out.inv.sorted hp hso
        obtain ⟨A2, c2, h2, hc2, hC2⟩ := Kd.R_reads hr2
        obtain ⟨m, hm⟩ : ∃ m, m = l'.length := ⟨_, rfl⟩
        rw [← hm] at h2 hc2
        subst h2
        have HR2 := Aside0.mk hr2
        have HM := Aside0.mk hm
        have hm32 : m ≤ 32 := by rw [hm]; exact HS.out.inv.len
        have HS5 := Aside0.mk (HS.out.below hb5)
        have HBW := Aside0.mk hb5
        have HLT := Aside0.mk (show g < wL.heap.size ∧ ∀ b, v.ownBlock = some b → b < wL.heap.size from ⟨HS.out.q.lt, fun b hb => (HS.out.q.row.bound hb).2.2.1⟩)
        clear hp hso hr2 hC2 hm hb5 HS HBK hlL
        go_wp2_with (fail)
        have hvals : ∀ x ∈ l, checkC x.f0 = 0 ∧ 0 ≤ x.f1 ∧ x.f1 ≤ 1000000000 := fun x hx => by
          obtain ⟨h1, h2, h3, _⟩ := HS5.out.inv.vals x (HS5.out.inv.perm.mem_iff.1 hx)
          exact ⟨h1, h2, by omega⟩
        have hvalL : ∀ x ∈ l', checkC x.f0 = 0 ∧ 0 ≤ x.f1 ∧ x.f1 ≤ 1000000000 := fun x hx => hvals x (HS5.out.inv.perm.mem_iff.2 hx)
        have hll : l.length ≤ 32 := by rw [HS5.out.inv.perm.length_eq]; exact HS5.out.inv.len
        refine (take_any g v l cm0 lo0 room 1073741824 W0 w5 HS5.out.q HS5.out.low HT.out (fun x hx => (hvals x hx).1) (by omega) (fun x hx => (hvals x hx).2) (by omega)).mono ?_
        rintro e w7 ⟨v7, v8, l2, rfl, hp, hso, hr7, hq8, hx⟩
        have e2 := (HS5.out.inv.sorted hp hso).symm
        subst e2
        obtain ⟨hsum, hchk, hleft⟩ := takeL_sum 1073741824 l' (fun x hx => (hvalL x hx).1) room (by omega)
        have hkeep := takeL_keep 1073741824 l' (fun x hx => by have := (hvalL x hx).2; omega) room
        have htl := takeL_len l' room 1073741824
        obtain ⟨tk, htk⟩ : ∃ tk, tk = (takeL l' room 1073741824).1 := ⟨_, rfl⟩
        obtain ⟨lf, hlf⟩ : ∃ lf, lf = (takeL l' room 1073741824).2 := ⟨_, rfl⟩
        rw [← htk] at hr7 hsum hchk hleft htl
        rw [← hlf] at hq8 hkeep
        obtain ⟨A3, c3, h3, hc3, hC3⟩ := Kd.R_reads hr7
        obtain ⟨nt, hnt⟩ : ∃ nt, nt = tk.length := ⟨_, rfl⟩
        rw [← hnt] at h3 hC3 htl
        rw [← HM.out] at htl hkeep
        subst h3
        have HC3 := Aside0.mk hC3
        have HNT := Aside0.mk hnt
        have HSUM := Aside0.mk hsum
        have HCHK := Aside0.mk hchk
        have HLEFT := Aside0.mk hleft
        have HKEEP := Aside0.mk hkeep
        have HQ7 := Aside0.mk hq8
        have HR7 := Aside0.mk (show Kd.R k47 47 w7 wL.heap.size (fun _ => True) (.slice A2 m c2) l' from Kd.R_mono (Kd.R_step (Kd.R_bound HR2.out) (fun k hk hlt => hx.keep.2 k hlt (by have h1 := HLT.out.1; have h2 := hk.2.1; omega) (fun e => by have h1 := HLT.out.2 k e.symm; have h2 := hk.2.1; omega))) (fun _ _ => trivial))
        have HB7 := Aside0.mk (hx.below HS5.out.q HS5.out.low)
        have htm : decide ((nt : Int) > (m : Int)) = false := decide_eq_false (by omega)
        have htm2 : decide ((m : Int) < (nt : Int)) = false := decide_eq_false (by omega)
        have htm3 : decide (m < nt) = false := decide_eq_false (by omega)
        have HNTM := Aside0.mk htl
        have HVL := Aside0.mk hvalL
        clear hp hso hr7 hq8 hx hvals hvalL hll hc3 hC3 HS5 HR2 hsum hchk hleft hkeep hnt htk hlf htl
        go_wp2_with (fail)
        go_loopg [10, 11] (nt + 1) (fun kq v10 v11 w8 => ∃ (i : Nat), v10 = .int .i64 (room - sumSz (tk.take i)) ∧ v11 = .int .i64 (i : Int) ∧ Aside0 (i ≤ nt ∧ i + kq = nt + 1) ∧ Aside0 (Below w7.heap.size w7 w8))
        case atStart => exact ⟨0, by simp [sumSz], rfl, ⟨by omega⟩, ⟨Below.refl _ _⟩⟩
        case round =>
          obtain ⟨i, rfl, rfl, HJ, HB8⟩ := hrel
          obtain ⟨hi0, hik⟩ := HJ.out
          by_cases hlt : i < nt
          · cases gk with
            | zero => exact absurd hik (by omega)
            | succ k1 =>
              have hlt1 : decide ((i : Int) < (nt : Int)) = true := decide_eq_true (by omega)
              have hlt2 : decide (i < nt) = true := decide_eq_true hlt
              obtain ⟨ad3, hA3, g0, g1, g2, g3, g4⟩ := at_T27 (Kd.C_below HC3.out HB8.out) (i : Int) (by omega) (by omega)
              subst hA3
              rw [Int.toNat_natCast] at g0 g1 g2 g3 g4
              have hlt3 : i < tk.length := by rw [← HNT.out]; exact hlt
              have hrd : rd_T27 tk (i : Int) = tk[i] := by unfold rd_T27; simp [hlt3]
              rw [hrd] at g0 g1 g2 g3 g4
              have hxm : checkC tk[i] = 0 := HCHK.out _ (List.getElem_mem _)
              have hts : tk.take (i + 1) = tk.take i ++ [tk[i]] := (List.take_append_getElem hlt3).symm
              have hsn := sumSz_snoc (tk.take i) tk[i]
              rw [← hts] at hsn
              have hb1 := sumSz_take_le tk HCHK.out (i + 1)
              have hb2 := sumSz_take_le tk HCHK.out i
              have hz := size_rng hxm
              obtain ⟨x, hx⟩ : ∃ x, x = tk[i] := ⟨_, rfl⟩
              rw [← hx] at g0 g1 g2 g3 g4 hxm hsn hz
              obtain ⟨a1, ha1⟩ : ∃ a1, a1 = sumSz (tk.take (i + 1)) := ⟨_, rfl⟩
              obtain ⟨a0, ha0⟩ : ∃ a0, a0 = sumSz (tk.take i) := ⟨_, rfl⟩
              rw [← ha1] at hsn hb1
              rw [← ha0] at hsn hb2
              rw [← ha0]
              have HSM := HSUM.out
              have hwr : wrap64 (room - a0 - sizeE x) = room - a1 := by unfold wrap64; omega
              have HXM := Aside0.mk hxm
              have HWR := Aside0.mk hwr
              have HA1 := Aside0.mk ha1
              have HZ := Aside0.mk (esize_any hxm wr (HT.out.below (below_then HB7.out HB7.out.size HB8.out)))
              clear hrd hts hsn hb1 hb2 hz hx ha1 ha0 HSM hlt3 hxm hwr
              unfold encE at HZ
              go_wp2_with ((go_at_call 17; refine HZ.out.mono ?_; rintro e w9 ⟨rfl, hb9⟩; have HB9 := Aside0.mk hb9; clear hb9 g0 g1 g2 g3 g4 HZ))
              go_roundg k1
              case measure => omega
              case rel => exact ⟨i + 1, by rw [HWR.out, HA1.out], by have := HNTM.out; first | rfl | (simp; done) | (simp; unfold wrap64; omega), ⟨by omega⟩, ⟨below_then HB8.out HB8.out.size HB9.out⟩⟩
          · have hlt1 : decide ((i : Int) < (nt : Int)) = false := decide_eq_false (by omega)
            have hlt2 : decide (i < nt) = false := decide_eq_false hlt
            obtain rfl : i = nt := by omega
            obtain ⟨left, hleft⟩ : ∃ left, left = room - sumSz (tk.take i) := ⟨_, rfl⟩
            rw [← hleft]
            rw [show tk.take i = tk by rw [HNT.out]; exact List.take_length] at hleft
            have hl0 : decide (left < 0) = false := decide_eq_false (by rw [hleft]; have := HSUM.out; omega)
            have HLE := Aside0.mk hleft
            clear HJ hi0 hik hlt hleft
            go_wp2_with (fail)
            obtain ⟨wA, rfl⟩ : ∃ wA, wA = wr := ⟨_, rfl⟩
            obtain ⟨nt, rfl⟩ : ∃ nt, nt = i := ⟨_, rfl⟩
            go_loopg [12] (m + 1) (fun kq v12 w8 => ∃ (i : Nat), v12 = .int .i64 (i : Int) ∧ Aside0 (i ≤ m ∧ i + kq = m + 1) ∧ Aside0 (Below w7.heap.size w7 w8))
            case atStart => exact ⟨0, rfl, ⟨by omega⟩, HB8⟩
            case round =>
              clear HB8
              obtain ⟨i, rfl, HJ, HB8⟩ := hrel
              obtain ⟨hi0, hik⟩ := HJ.out
              by_cases hlt : i < m
              · cases gk with
                | zero => exact absurd hik (by omega)
                | succ k1 =>
                  have hlt1 : decide ((i : Int) < (m : Int)) = true := decide_eq_true (by omega)
                  have hlt2 : decide (i < m) = true := decide_eq_true hlt
                  obtain ⟨x, hx⟩ : ∃ x, x = rd_T47 l' (i : Int) := ⟨_, rfl⟩
                  have hxm : x ∈ l' := by rw [hx, show rd_T47 l' (i : Int) = l'[i]'(by have := HM.out; omega) from rd47_get l' i (by have := HM.out; omega)]; exact List.getElem_mem _
                  have HX := Aside0.mk hx
                  have HXM := Aside0.mk hxm
                  clear hx hxm
                  go_wp2_with (fail)
                  go_loopg [13, 14] (nt + 1) (fun kq v13 v14 w9 => ∃ (k : Nat), v13 = .bool ((tk.take k).any (fun y => eqB y x.f0)) ∧ v14 = .int .i64 (k : Int) ∧ Aside0 (k ≤ nt ∧ k + kq = nt + 1) ∧ Aside0 (Below w7.heap.size w7 w9))
                  case atStart => exact ⟨0, by simp, rfl, ⟨by omega⟩, HB8⟩
                  case round =>
                    clear HB8
                    obtain ⟨k, rfl, rfl, HK, HB8⟩ := hrel
                    obtain ⟨hk0, hkk⟩ := HK.out
                    by_cases hkt : k < nt
                    · cases gk with
                      | zero => exact absurd hkk (by omega)
                      | succ k2 =>
                        have hkt1 : decide ((k : Int) < (nt : Int)) = true := decide_eq_true (by omega)
                        have hkt2 : decide (k < nt) = true := decide_eq_true hkt
                        have hkl : k < tk.length := by rw [← HNT.out]; exact hkt
                        have hts : tk.take (k + 1) = tk.take k ++ [tk[k]] := (List.take_append_getElem hkl).symm
                        have hany : (tk.take (k + 1)).any (fun y => eqB y x.f0) = ((tk.take k).any (fun y => eqB y x.f0) || eqB tk[k] x.f0) := by rw [hts, List.any_append, List.any_cons, List.any_nil, Bool.or_false]
                        obtain ⟨b, hb⟩ : ∃ b, b = (tk.take k).any (fun y => eqB y x.f0) := ⟨_, rfl⟩
                        rw [← hb] at hany ⊢
                        obtain ⟨wd, hwd⟩ : ∃ wd, wd = wr.drew := ⟨_, rfl⟩
                        have HWD := Aside0.mk hwd
                        have hBd : Below w7.heap.size w7 wd := by rw [hwd]; exact HB8.out.drew
                        have HBD := Aside0.mk hBd
                        cases b with
                        | true =>
                          have HANY := Aside0.mk (show (tk.take (k + 1)).any (fun y => eqB y x.f0) = true by rw [hany]; rfl)
                          clear hb hts hany hwd hBd hkl
                          go_wp2_with (fail)
                          refine Reg.region_late hmix [some 79, some 80, some 81, some 82, some 83, some 84, some 85, some 86, some 87, some 88, some 89, some 90, some 91, some 13] [[], [0], [1], [1], [2, 3, 1], [4, 1], [1], [1], [6, 7, 1], [8, 1], [9, 1], [5, 10, 1], [1, 11], [12, 1, 0, 1, 2, 3, 4, 5, 6, 7, 8, 9, 10, 11, 12]] (fun w => Aside0 (w = wd)) (fun w w' => Aside0 (w' = w)) [(fun v w => v = (.bool true : Value)), (fun v w => v = (.bool true : Value)), (fun v w => v = (undef : Value)), (fun v w => v = (undef : Value)), (fun v w => v = (undef : Value)), (fun v w => v = (undef : Value)), (fun v w => v = (undef : Value)), (fun v w => v = (undef : Value)), (fun v w => v = (undef : Value)), (fun v w => v = (undef : Value)), (fun v w => v = (undef : Value)), (fun v w => v = (undef : Value)), (fun v w => v = (.bool true : Value)), (fun v w => v = (.bool true : Value))] rfl (by kernel_rfl) (by kernel_rfl) (fun _ => ⟨rfl⟩) (fun _ _ hr => Reg.mono_cons (fun _ h => h) (Reg.mono_cons (fun _ h => h) (Reg.mono_cons (fun _ h => h) (Reg.mono_cons (fun _ h => h) (Reg.mono_cons (fun _ h => h) (Reg.mono_cons (fun _ h => h) (Reg.mono_cons (fun _ h => h) (Reg.mono_cons (fun _ h => h) (Reg.mono_cons (fun _ h => h) (Reg.mono_cons (fun _ h => h) (Reg.mono_cons (fun _ h => h) (Reg.mono_cons (fun _ h => h) (Reg.mono_cons (fun _ h => h) (Reg.mono_cons (fun _ h => h) (Reg.mono_nil))))))))))))))) (⟨HWD.out.symm⟩) ?hs ?he
                          case hs =>
                            intro xs0 xs hx0 hl1_ hl0_ wr hG
                            obtain ⟨y0, ys1, rfl, kl1⟩ := Reg.len_succ hl1_
                            obtain ⟨y1, ys2, rfl, kl2⟩ := Reg.len_succ kl1
                            obtain ⟨y2, ys3, rfl, kl3⟩ := Reg.len_succ kl2
                            obtain ⟨y3, ys4, rfl, kl4⟩ := Reg.len_succ kl3
                            obtain ⟨y4, ys5, rfl, kl5⟩ := Reg.len_succ kl4
                            obtain ⟨y5, ys6, rfl, kl6⟩ := Reg.len_succ kl5
                            obtain ⟨y6, ys7, rfl, kl7⟩ := Reg.len_succ kl6
                            obtain ⟨y7, ys8, rfl, kl8⟩ := Reg.len_succ kl7
                            obtain ⟨y8, ys9, rfl, kl9⟩ := Reg.len_succ kl8
                            obtain ⟨y9, ys10, rfl, kl10⟩ := Reg.len_succ kl9
                            obtain ⟨y10, ys11, rfl, kl11⟩ := Reg.len_succ kl10
                            obtain ⟨y11, ys12, rfl, kl12⟩ := Reg.len_succ kl11
                            obtain ⟨y12, ys13, rfl, kl13⟩ := Reg.len_succ kl12
                            obtain ⟨y13, ys14, rfl, kl14⟩ := Reg.len_succ kl13
                            obtain rfl := List.eq_nil_of_length_eq_zero kl14
                            clear hl1_ kl1 kl2 kl3 kl4 kl5 kl6 kl7 kl8 kl9 kl10 kl11 kl12 kl13 kl14
                            simp only [Reg.putL, Act.put, List.setIfInBounds_toArray, List.set_cons_succ, List.set_cons_zero, Act.mk.injEq, and_true] at hx0
                            replace hx0 := congrArg Array.toList hx0
                            simp only [List.cons.injEq, and_true, true_and] at hx0
                            have hy13 : y13 = (.bool true : Value) := by simp only [hx0]
                            clear hx0
                            obtain ⟨x0, xs1, rfl, hl1⟩ := Reg.len_succ hl0_
                            obtain ⟨x1, xs2, rfl, hl2⟩ := Reg.len_succ hl1
                            obtain ⟨x2, xs3, rfl, hl3⟩ := Reg.len_succ hl2
                            obtain ⟨x3, xs4, rfl, hl4⟩ := Reg.len_succ hl3
                            obtain ⟨x4, xs5, rfl, hl5⟩ := Reg.len_succ hl4
                            obtain ⟨x5, xs6, rfl, hl6⟩ := Reg.len_succ hl5
                            obtain ⟨x6, xs7, rfl, hl7⟩ := Reg.len_succ hl6
                            obtain ⟨x7, xs8, rfl, hl8⟩ := Reg.len_succ hl7
                            obtain ⟨x8, xs9, rfl, hl9⟩ := Reg.len_succ hl8
                            obtain ⟨x9, xs10, rfl, hl10⟩ := Reg.len_succ hl9
                            obtain ⟨x10, xs11, rfl, hl11⟩ := Reg.len_succ hl10
                            obtain ⟨x11, xs12, rfl, hl12⟩ := Reg.len_succ hl11
                            obtain ⟨x12, xs13, rfl, hl13⟩ := Reg.len_succ hl12
                            obtain ⟨x13, xs14, rfl, hl14⟩ := Reg.len_succ hl13
                            obtain rfl := List.eq_nil_of_length_eq_zero hl14
                            clear hl0_ hl1 hl2 hl3 hl4 hl5 hl6 hl7 hl8 hl9 hl10 hl11 hl12 hl13 hl14
                            simp only [Reg.putL, Act.put, List.setIfInBounds_toArray, List.set_cons_succ, List.set_cons_zero]
                            obtain rfl := hG.out
                            refine ⟨fun hf hlt_ _ => ?_, ?_⟩
                            · clear hf
                              obtain rfl : x13 = y13 := hlt_ 13 (by decide)
                              rw [hy13]
                              clear hlt_
                              refine .inl ⟨by rfl, ?_⟩
                              simp only [Reg.ung]
                              go_wp2
                              first | exact ⟨_, rfl, hG, ⟨rfl⟩, rfl⟩ | exact ⟨rfl, hG, ⟨rfl⟩, rfl⟩ | exact ⟨rfl, hG, ⟨rfl⟩⟩ | exact ⟨rfl, ⟨rfl⟩⟩
                            refine ⟨fun hf hlt_ _ => ?_, ?_⟩
                            · obtain ⟨hq0, -⟩ := hf
                              obtain rfl : x13 = y13 := hlt_ 13 (by decide)
                              rw [hy13]
                              clear hlt_
                              obtain rfl : x0 = _ := hq0
                              refine .inl ⟨by rfl, ?_⟩
                              simp only [Reg.ung]
                              go_wp2
                              first | exact ⟨_, rfl, hG, ⟨rfl⟩, rfl⟩ | exact ⟨rfl, hG, ⟨rfl⟩, rfl⟩ | exact ⟨rfl, hG, ⟨rfl⟩⟩ | exact ⟨rfl, ⟨rfl⟩⟩
                            refine ⟨fun hf hlt_ _ => ?_, ?_⟩
                            · obtain ⟨hq0, -⟩ := hf
                              obtain rfl : x13 = y13 := hlt_ 13 (by decide)
                              rw [hy13]
                              clear hlt_
                              obtain rfl : x1 = _ := hq0
                              exact .inr ⟨by rfl, rfl⟩
                            refine ⟨fun hf hlt_ _ => ?_, ?_⟩
                            · obtain ⟨hq0, -⟩ := hf
                              obtain rfl : x13 = y13 := hlt_ 13 (by decide)
                              rw [hy13]
                              clear hlt_
                              obtain rfl : x1 = _ := hq0
                              exact .inr ⟨by rfl, rfl⟩
                            refine ⟨fun hf hlt_ _ => ?_, ?_⟩
                            · obtain ⟨hq0, hq1, hq2, -⟩ := hf
                              obtain rfl : x13 = y13 := hlt_ 13 (by decide)
                              rw [hy13]
                              clear hlt_
                              obtain rfl : x2 = _ := hq0
                              obtain rfl : x3 = _ := hq1
                              obtain rfl : x1 = _ := hq2
                              exact .inr ⟨by rfl, rfl⟩
                            refine ⟨fun hf hlt_ _ => ?_, ?_⟩
                            · obtain ⟨hq0, hq1, -⟩ := hf
                              obtain rfl : x13 = y13 := hlt_ 13 (by decide)
                              rw [hy13]
                              clear hlt_
                              obtain rfl : x4 = _ := hq0
                              obtain rfl : x1 = _ := hq1
                              exact .inr ⟨by rfl, rfl⟩
                            refine ⟨fun hf hlt_ _ => ?_, ?_⟩
                            · obtain ⟨hq0, -⟩ := hf
                              obtain rfl : x13 = y13 := hlt_ 13 (by decide)
                              rw [hy13]
                              clear hlt_
                              obtain rfl : x1 = _ := hq0
                              exact .inr ⟨by rfl, rfl⟩
                            refine ⟨fun hf hlt_ _ => ?_, ?_⟩
                            · obtain ⟨hq0, -⟩ := hf
                              obtain rfl : x13 = y13 := hlt_ 13 (by decide)
                              rw [hy13]
                              clear hlt_
                              obtain rfl : x1 = _ := hq0
                              exact .inr ⟨by rfl, rfl⟩
                            refine ⟨fun hf hlt_ _ => ?_, ?_⟩
                            · obtain ⟨hq0, hq1, hq2, -⟩ := hf
                              obtain rfl : x13 = y13 := hlt_ 13 (by decide)
                              rw [hy13]
                              clear hlt_
                              obtain rfl : x6 = _ := hq0
                              obtain rfl : x7 = _ := hq1
                              obtain rfl : x1 = _ := hq2
                              exact .inr ⟨by rfl, rfl⟩
                            refine ⟨fun hf hlt_ _ => ?_, ?_⟩
                            · obtain ⟨hq0, hq1, -⟩ := hf
                              obtain rfl : x13 = y13 := hlt_ 13 (by decide)
                              rw [hy13]
                              clear hlt_
                              obtain rfl : x8 = _ := hq0
                              obtain rfl : x1 = _ := hq1
                              exact .inr ⟨by rfl, rfl⟩
                            refine ⟨fun hf hlt_ _ => ?_, ?_⟩
                            · obtain ⟨hq0, hq1, -⟩ := hf
                              obtain rfl : x13 = y13 := hlt_ 13 (by decide)
                              rw [hy13]
                              clear hlt_
                              obtain rfl : x9 = _ := hq0
                              obtain rfl : x1 = _ := hq1
                              exact .inr ⟨by rfl, rfl⟩
                            refine ⟨fun hf hlt_ _ => ?_, ?_⟩
                            · obtain ⟨hq0, hq1, hq2, -⟩ := hf
                              obtain rfl : x13 = y13 := hlt_ 13 (by decide)
                              rw [hy13]
                              clear hlt_
                              obtain rfl : x5 = _ := hq0
                              obtain rfl : x10 = _ := hq1
                              obtain rfl : x1 = _ := hq2
                              exact .inr ⟨by rfl, rfl⟩
                            refine ⟨fun hf hlt_ _ => ?_, ?_⟩
                            · obtain ⟨hq0, hq1, -⟩ := hf
                              obtain rfl : x13 = y13 := hlt_ 13 (by decide)
                              rw [hy13]
                              clear hlt_
                              obtain rfl : x1 = _ := hq0
                              obtain rfl : x11 = _ := hq1
                              refine .inl ⟨by rfl, ?_⟩
                              simp only [Reg.ung]
                              go_wp2
                              first | exact ⟨_, rfl, hG, ⟨rfl⟩, rfl⟩ | exact ⟨rfl, hG, ⟨rfl⟩, rfl⟩ | exact ⟨rfl, hG, ⟨rfl⟩⟩ | exact ⟨rfl, ⟨rfl⟩⟩
                            refine ⟨fun hf hlt_ _ => ?_, ?_⟩
                            · obtain ⟨hq0, -, -, -, -, -, -, -, -, -, -, -, -, -, -, -⟩ := hf
                              clear hlt_
                              obtain rfl : x12 = _ := hq0
                              refine .inl ⟨by rfl, ?_⟩
                              simp only [Reg.ung]
                              go_wp2
                              first | exact ⟨_, rfl, hG, ⟨rfl⟩, rfl⟩ | exact ⟨rfl, hG, ⟨rfl⟩, rfl⟩ | exact ⟨rfl, hG, ⟨rfl⟩⟩ | exact ⟨rfl, ⟨rfl⟩⟩
                            exact trivial
                          case he =>
                            intro xs hl0_ wr hG hf
                            obtain ⟨x0, xs1, rfl, hl1⟩ := Reg.len_succ hl0_
                            obtain ⟨x1, xs2, rfl, hl2⟩ := Reg.len_succ hl1
                            obtain ⟨x2, xs3, rfl, hl3⟩ := Reg.len_succ hl2
                            obtain ⟨x3, xs4, rfl, hl4⟩ := Reg.len_succ hl3
                            obtain ⟨x4, xs5, rfl, hl5⟩ := Reg.len_succ hl4
                            obtain ⟨x5, xs6, rfl, hl6⟩ := Reg.len_succ hl5
                            obtain ⟨x6, xs7, rfl, hl7⟩ := Reg.len_succ hl6
                            obtain ⟨x7, xs8, rfl, hl8⟩ := Reg.len_succ hl7
                            obtain ⟨x8, xs9, rfl, hl9⟩ := Reg.len_succ hl8
                            obtain ⟨x9, xs10, rfl, hl10⟩ := Reg.len_succ hl9
                            obtain ⟨x10, xs11, rfl, hl11⟩ := Reg.len_succ hl10
                            obtain ⟨x11, xs12, rfl, hl12⟩ := Reg.len_succ hl11
                            obtain ⟨x12, xs13, rfl, hl13⟩ := Reg.len_succ hl12
                            obtain ⟨x13, xs14, rfl, hl14⟩ := Reg.len_succ hl13
                            obtain rfl := List.eq_nil_of_length_eq_zero hl14
                            clear hl0_ hl1 hl2 hl3 hl4 hl5 hl6 hl7 hl8 hl9 hl10 hl11 hl12 hl13 hl14
                            obtain ⟨hq0, hq1, hq2, hq3, hq4, hq5, hq6, hq7, hq8, hq9, hq10, hq11, hq12, hq13, -⟩ := hf
                            obtain rfl : x0 = _ := hq0
                            obtain rfl : x1 = _ := hq1
                            obtain rfl : x2 = _ := hq2
                            obtain rfl : x3 = _ := hq3
                            obtain rfl : x4 = _ := hq4
                            obtain rfl : x5 = _ := hq5
                            obtain rfl : x6 = _ := hq6
                            obtain rfl : x7 = _ := hq7
                            obtain rfl : x8 = _ := hq8
                            obtain rfl : x9 = _ := hq9
                            obtain rfl : x10 = _ := hq10
                            obtain rfl : x11 = _ := hq11
                            obtain rfl : x12 = _ := hq12
                            obtain rfl : x13 = _ := hq13
                            simp only [Reg.putL, Act.put, List.setIfInBounds_toArray, List.set_cons_succ, List.set_cons_zero]
                            obtain rfl := hG.out
                            go_wp2_with (fail)
                            go_roundg k2
                            case measure => omega
                            case rel => exact ⟨k + 1, by rw [HANY.out], by have := HNTM.out; first | rfl | (simp; done) | (simp; unfold wrap64; omega), ⟨by omega⟩, HBD⟩
                        | false =>
                          obtain ⟨A2', c2', h2', hc2', hC2'⟩ := Kd.R_reads (Kd.R_below HR7.out hBd)
                          obtain ⟨rfl, hmm, rfl⟩ : A2 = A2' ∧ m = l'.length ∧ c2 = c2' := by simpa using h2'
                          obtain ⟨ad, hA, f0, f1, f2, f3, f4, f5, f6⟩ := at_T47 hC2' (i : Int) (by omega) (by omega)
                          subst hA
                          obtain ⟨ad3, hA3, g0, g1, g2, g3, g4⟩ := at_T27 (Kd.C_below HC3.out hBd) (k : Int) (by omega) (by omega)
                          subst hA3
                          have hrd : rd_T27 tk (k : Int) = tk[k] := by unfold rd_T27; simp [hkl]
                          rw [Int.toNat_natCast] at f0 f1 f2 f3 f4 f5 f6 g0 g1 g2 g3 g4
                          rw [hrd] at g0 g1 g2 g3 g4
                          rw [← HX.out] at f0 f1 f2 f3 f4 f5 f6
                          obtain ⟨y, hy⟩ : ∃ y, y = tk[k] := ⟨_, rfl⟩
                          rw [← hy] at hany g0 g1 g2 g3 g4
                          have HANY := Aside0.mk hany
                          clear hb hts hany hwd hBd hkl hrd hy h2' hC2' hmm hc2'
                          go_wp2_with (fail)
                          refine Reg.region_late hmix [some 79, some 80, some 81, some 82, some 83, some 84, some 85, some 86, some 87, some 88, some 89, some 90, some 91, some 13] [[], [0], [1], [1], [2, 3, 1], [4, 1], [1], [1], [6, 7, 1], [8, 1], [9, 1], [5, 10, 1], [1, 11], [12, 1, 0, 1, 2, 3, 4, 5, 6, 7, 8, 9, 10, 11, 12]] (fun w => Aside0 (w = wd)) (fun w w' => Aside0 (w' = w)) [(fun v w => v = (.bool false : Value)), (fun v w => v = (.bool false : Value)), (fun v w => v = (.slice (some ad3) nt c3 : Value)), (fun v w => v = (.int .i64 (k : Int) : Value)), (fun v w => v = (.pointer (some (ad3.add (k * 5))) : Value)), (fun v w => v = (.agg #[.string y.f0, .int .i64 y.f1, .int .u16 y.f2, .string y.f3, .int .i64 y.f4] : Value)), (fun v w => v = (.slice (some ad) m c2 : Value)), (fun v w => v = (.int .i64 (i : Int) : Value)), (fun v w => v = (.pointer (some (ad.add (i * 7))) : Value)), (fun v w => v = (.pointer (some (ad.add (i * 7))) : Value)), (fun v w => v = (.agg #[.string x.f0.f0, .int .i64 x.f0.f1, .int .u16 x.f0.f2, .string x.f0.f3, .int .i64 x.f0.f4] : Value)), (fun v w => v = (.bool (eqB y x.f0) : Value)), (fun v w => v = (.bool (eqB y x.f0) : Value)), (fun v w => v = (.bool (eqB y x.f0) : Value))] rfl (by kernel_rfl) (by kernel_rfl) (fun _ => ⟨rfl⟩) (fun _ _ hr => Reg.mono_cons (fun _ h => h) (Reg.mono_cons (fun _ h => h) (Reg.mono_cons (fun _ h => h) (Reg.mono_cons (fun _ h => h) (Reg.mono_cons (fun _ h => h) (Reg.mono_cons (fun _ h => h) (Reg.mono_cons (fun _ h => h) (Reg.mono_cons (fun _ h => h) (Reg.mono_cons (fun _ h => h) (Reg.mono_cons (fun _ h => h) (Reg.mono_cons (fun _ h => h) (Reg.mono_cons (fun _ h => h) (Reg.mono_cons (fun _ h => h) (Reg.mono_cons (fun _ h => h) (Reg.mono_nil))))))))))))))) (⟨HWD.out.symm⟩) ?hs ?he
                          case hs =>
                            intro xs0 xs hx0 hl1_ hl0_ wr hG
                            obtain ⟨y0, ys1, rfl, kl1⟩ := Reg.len_succ hl1_
                            obtain ⟨y1, ys2, rfl, kl2⟩ := Reg.len_succ kl1
                            obtain ⟨y2, ys3, rfl, kl3⟩ := Reg.len_succ kl2
                            obtain ⟨y3, ys4, rfl, kl4⟩ := Reg.len_succ kl3
                            obtain ⟨y4, ys5, rfl, kl5⟩ := Reg.len_succ kl4
                            obtain ⟨y5, ys6, rfl, kl6⟩ := Reg.len_succ kl5
                            obtain ⟨y6, ys7, rfl, kl7⟩ := Reg.len_succ kl6
                            obtain ⟨y7, ys8, rfl, kl8⟩ := Reg.len_succ kl7
                            obtain ⟨y8, ys9, rfl, kl9⟩ := Reg.len_succ kl8
                            obtain ⟨y9, ys10, rfl, kl10⟩ := Reg.len_succ kl9
                            obtain ⟨y10, ys11, rfl, kl11⟩ := Reg.len_succ kl10
                            obtain ⟨y11, ys12, rfl, kl12⟩ := Reg.len_succ kl11
                            obtain ⟨y12, ys13, rfl, kl13⟩ := Reg.len_succ kl12
                            obtain ⟨y13, ys14, rfl, kl14⟩ := Reg.len_succ kl13
                            obtain rfl := List.eq_nil_of_length_eq_zero kl14
                            clear hl1_ kl1 kl2 kl3 kl4 kl5 kl6 kl7 kl8 kl9 kl10 kl11 kl12 kl13 kl14
                            simp only [Reg.putL, Act.put, List.setIfInBounds_toArray, List.set_cons_succ, List.set_cons_zero, Act.mk.injEq, and_true] at hx0
                            replace hx0 := congrArg Array.toList hx0
                            simp only [List.cons.injEq, and_true, true_and] at hx0
                            have hy13 : y13 = (.bool false : Value) := by simp only [hx0]
                            clear hx0
                            obtain ⟨x0, xs1, rfl, hl1⟩ := Reg.len_succ hl0_
                            obtain ⟨x1, xs2, rfl, hl2⟩ := Reg.len_succ hl1
                            obtain ⟨x2, xs3, rfl, hl3⟩ := Reg.len_succ hl2
                            obtain ⟨x3, xs4, rfl, hl4⟩ := Reg.len_succ hl3
                            obtain ⟨x4, xs5, rfl, hl5⟩ := Reg.len_succ hl4
                            obtain ⟨x5, xs6, rfl, hl6⟩ := Reg.len_succ hl5
                            obtain ⟨x6, xs7, rfl, hl7⟩ := Reg.len_succ hl6
                            obtain ⟨x7, xs8, rfl, hl8⟩ := Reg.len_succ hl7
                            obtain ⟨x8, xs9, rfl, hl9⟩ := Reg.len_succ hl8
                            obtain ⟨x9, xs10, rfl, hl10⟩ := Reg.len_succ hl9
                            obtain ⟨x10, xs11, rfl, hl11⟩ := Reg.len_succ hl10
                            obtain ⟨x11, xs12, rfl, hl12⟩ := Reg.len_succ hl11
                            obtain ⟨x12, xs13, rfl, hl13⟩ := Reg.len_succ hl12
                            obtain ⟨x13, xs14, rfl, hl14⟩ := Reg.len_succ hl13
                            obtain rfl := List.eq_nil_of_length_eq_zero hl14
                            clear hl0_ hl1 hl2 hl3 hl4 hl5 hl6 hl7 hl8 hl9 hl10 hl11 hl12 hl13 hl14
                            simp only [Reg.putL, Act.put, List.setIfInBounds_toArray, List.set_cons_succ, List.set_cons_zero]
                            obtain rfl := hG.out
                            refine ⟨fun hf hlt_ _ => ?_, ?_⟩
                            · clear hf
                              obtain rfl : x13 = y13 := hlt_ 13 (by decide)
                              rw [hy13]
                              clear hlt_
                              refine .inl ⟨by rfl, ?_⟩
                              simp only [Reg.ung]
                              go_wp2
                              first | exact ⟨_, rfl, hG, ⟨rfl⟩, rfl⟩ | exact ⟨rfl, hG, ⟨rfl⟩, rfl⟩ | exact ⟨rfl, hG, ⟨rfl⟩⟩ | exact ⟨rfl, ⟨rfl⟩⟩
                            refine ⟨fun hf hlt_ _ => ?_, ?_⟩
                            · obtain ⟨hq0, -⟩ := hf
                              obtain rfl : x13 = y13 := hlt_ 13 (by decide)
                              rw [hy13]
                              clear hlt_
                              obtain rfl : x0 = _ := hq0
                              refine .inl ⟨by rfl, ?_⟩
                              simp only [Reg.ung]
                              go_wp2
                              first | exact ⟨_, rfl, hG, ⟨rfl⟩, rfl⟩ | exact ⟨rfl, hG, ⟨rfl⟩, rfl⟩ | exact ⟨rfl, hG, ⟨rfl⟩⟩ | exact ⟨rfl, ⟨rfl⟩⟩
                            refine ⟨fun hf hlt_ _ => ?_, ?_⟩
                            · obtain ⟨hq0, -⟩ := hf
                              obtain rfl : x13 = y13 := hlt_ 13 (by decide)
                              rw [hy13]
                              clear hlt_
                              obtain rfl : x1 = _ := hq0
                              refine .inl ⟨by rfl, ?_⟩
                              simp only [Reg.ung]
                              go_wp2
                              first | exact ⟨_, rfl, hG, ⟨rfl⟩, rfl⟩ | exact ⟨rfl, hG, ⟨rfl⟩, rfl⟩ | exact ⟨rfl, hG, ⟨rfl⟩⟩ | exact ⟨rfl, ⟨rfl⟩⟩
                            refine ⟨fun hf hlt_ _ => ?_, ?_⟩
                            · obtain ⟨hq0, -⟩ := hf
                              obtain rfl : x13 = y13 := hlt_ 13 (by decide)
                              rw [hy13]
                              clear hlt_
                              obtain rfl : x1 = _ := hq0
                              refine .inl ⟨by rfl, ?_⟩
                              simp only [Reg.ung]
                              go_wp2
                              first | exact ⟨_, rfl, hG, ⟨rfl⟩, rfl⟩ | exact ⟨rfl, hG, ⟨rfl⟩, rfl⟩ | exact ⟨rfl, hG, ⟨rfl⟩⟩ | exact ⟨rfl, ⟨rfl⟩⟩
                            refine ⟨fun hf hlt_ _ => ?_, ?_⟩
                            · obtain ⟨hq0, hq1, hq2, -⟩ := hf
                              obtain rfl : x13 = y13 := hlt_ 13 (by decide)
                              rw [hy13]
                              clear hlt_
                              obtain rfl : x2 = _ := hq0
                              obtain rfl : x3 = _ := hq1
                              obtain rfl : x1 = _ := hq2
                              refine .inl ⟨by rfl, ?_⟩
                              simp only [Reg.ung]
                              go_wp2
                              first | exact ⟨_, rfl, hG, ⟨rfl⟩, rfl⟩ | exact ⟨rfl, hG, ⟨rfl⟩, rfl⟩ | exact ⟨rfl, hG, ⟨rfl⟩⟩ | exact ⟨rfl, ⟨rfl⟩⟩
                            refine ⟨fun hf hlt_ _ => ?_, ?_⟩
                            · obtain ⟨hq0, hq1, -⟩ := hf
                              obtain rfl : x13 = y13 := hlt_ 13 (by decide)
                              rw [hy13]
                              clear hlt_
                              obtain rfl : x4 = _ := hq0
                              obtain rfl : x1 = _ := hq1
                              refine .inl ⟨by rfl, ?_⟩
                              simp only [Reg.ung]
                              go_wp2
                              first | exact ⟨_, rfl, hG, ⟨rfl⟩, rfl⟩ | exact ⟨rfl, hG, ⟨rfl⟩, rfl⟩ | exact ⟨rfl, hG, ⟨rfl⟩⟩ | exact ⟨rfl, ⟨rfl⟩⟩
                            refine ⟨fun hf hlt_ _ => ?_, ?_⟩
                            · obtain ⟨hq0, -⟩ := hf
                              obtain rfl : x13 = y13 := hlt_ 13 (by decide)
                              rw [hy13]
                              clear hlt_
                              obtain rfl : x1 = _ := hq0
                              refine .inl ⟨by rfl, ?_⟩
                              simp only [Reg.ung]
                              go_wp2
                              first | exact ⟨_, rfl, hG, ⟨rfl⟩, rfl⟩ | exact ⟨rfl, hG, ⟨rfl⟩, rfl⟩ | exact ⟨rfl, hG, ⟨rfl⟩⟩ | exact ⟨rfl, ⟨rfl⟩⟩
                            refine ⟨fun hf hlt_ _ => ?_, ?_⟩
                            · obtain ⟨hq0, -⟩ := hf
                              obtain rfl : x13 = y13 := hlt_ 13 (by decide)
                              rw [hy13]
                              clear hlt_
                              obtain rfl : x1 = _ := hq0
                              refine .inl ⟨by rfl, ?_⟩
                              simp only [Reg.ung]
                              go_wp2
                              first | exact ⟨_, rfl, hG, ⟨rfl⟩, rfl⟩ | exact ⟨rfl, hG, ⟨rfl⟩, rfl⟩ | exact ⟨rfl, hG, ⟨rfl⟩⟩ | exact ⟨rfl, ⟨rfl⟩⟩
                            refine ⟨fun hf hlt_ _ => ?_, ?_⟩
                            · obtain ⟨hq0, hq1, hq2, -⟩ := hf
                              obtain rfl : x13 = y13 := hlt_ 13 (by decide)
                              rw [hy13]
                              clear hlt_
                              obtain rfl : x6 = _ := hq0
                              obtain rfl : x7 = _ := hq1
                              obtain rfl : x1 = _ := hq2
                              refine .inl ⟨by rfl, ?_⟩
                              simp only [Reg.ung]
                              go_wp2
                              first | exact ⟨_, rfl, hG, ⟨rfl⟩, rfl⟩ | exact ⟨rfl, hG, ⟨rfl⟩, rfl⟩ | exact ⟨rfl, hG, ⟨rfl⟩⟩ | exact ⟨rfl, ⟨rfl⟩⟩
                            refine ⟨fun hf hlt_ _ => ?_, ?_⟩
                            · obtain ⟨hq0, hq1, -⟩ := hf
                              obtain rfl : x13 = y13 := hlt_ 13 (by decide)
                              rw [hy13]
                              clear hlt_
                              obtain rfl : x8 = _ := hq0
                              obtain rfl : x1 = _ := hq1
                              refine .inl ⟨by rfl, ?_⟩
                              simp only [Reg.ung]
                              go_wp2
                              first | exact ⟨_, rfl, hG, ⟨rfl⟩, rfl⟩ | exact ⟨rfl, hG, ⟨rfl⟩, rfl⟩ | exact ⟨rfl, hG, ⟨rfl⟩⟩ | exact ⟨rfl, ⟨rfl⟩⟩
                            refine ⟨fun hf hlt_ _ => ?_, ?_⟩
                            · obtain ⟨hq0, hq1, -⟩ := hf
                              obtain rfl : x13 = y13 := hlt_ 13 (by decide)
                              rw [hy13]
                              clear hlt_
                              obtain rfl : x9 = _ := hq0
                              obtain rfl : x1 = _ := hq1
                              refine .inl ⟨by rfl, ?_⟩
                              simp only [Reg.ung]
                              go_wp2
                              first | exact ⟨_, rfl, hG, ⟨rfl⟩, rfl⟩ | exact ⟨rfl, hG, ⟨rfl⟩, rfl⟩ | exact ⟨rfl, hG, ⟨rfl⟩⟩ | exact ⟨rfl, ⟨rfl⟩⟩
                            refine ⟨fun hf hlt_ _ => ?_, ?_⟩
                            · obtain ⟨hq0, hq1, hq2, -⟩ := hf
                              obtain rfl : x13 = y13 := hlt_ 13 (by decide)
                              rw [hy13]
                              clear hlt_
                              obtain rfl : x5 = _ := hq0
                              obtain rfl : x10 = _ := hq1
                              obtain rfl : x1 = _ := hq2
                              refine .inl ⟨by rfl, ?_⟩
                              simp only [Reg.ung]
                              go_wp2
                              first | exact ⟨_, rfl, hG, ⟨rfl⟩, rfl⟩ | exact ⟨rfl, hG, ⟨rfl⟩, rfl⟩ | exact ⟨rfl, hG, ⟨rfl⟩⟩ | exact ⟨rfl, ⟨rfl⟩⟩
                            refine ⟨fun hf hlt_ _ => ?_, ?_⟩
                            · obtain ⟨hq0, hq1, -⟩ := hf
                              obtain rfl : x13 = y13 := hlt_ 13 (by decide)
                              rw [hy13]
                              clear hlt_
                              obtain rfl : x1 = _ := hq0
                              obtain rfl : x11 = _ := hq1
                              refine .inl ⟨by rfl, ?_⟩
                              simp only [Reg.ung]
                              go_wp2
                              first | exact ⟨_, rfl, hG, ⟨rfl⟩, rfl⟩ | exact ⟨rfl, hG, ⟨rfl⟩, rfl⟩ | exact ⟨rfl, hG, ⟨rfl⟩⟩ | exact ⟨rfl, ⟨rfl⟩⟩
                            refine ⟨fun hf hlt_ _ => ?_, ?_⟩
                            · obtain ⟨hq0, -, -, -, -, -, -, -, -, -, -, -, -, -, -, -⟩ := hf
                              clear hlt_
                              obtain rfl : x12 = _ := hq0
                              refine .inl ⟨by rfl, ?_⟩
                              simp only [Reg.ung]
                              go_wp2
                              first | exact ⟨_, rfl, hG, ⟨rfl⟩, rfl⟩ | exact ⟨rfl, hG, ⟨rfl⟩, rfl⟩ | exact ⟨rfl, hG, ⟨rfl⟩⟩ | exact ⟨rfl, ⟨rfl⟩⟩
                            exact trivial
                          case he =>
                            intro xs hl0_ wr hG hf
                            obtain ⟨x0, xs1, rfl, hl1⟩ := Reg.len_succ hl0_
                            obtain ⟨x1, xs2, rfl, hl2⟩ := Reg.len_succ hl1
                            obtain ⟨x2, xs3, rfl, hl3⟩ := Reg.len_succ hl2
                            obtain ⟨x3, xs4, rfl, hl4⟩ := Reg.len_succ hl3
                            obtain ⟨x4, xs5, rfl, hl5⟩ := Reg.len_succ hl4
                            obtain ⟨x5, xs6, rfl, hl6⟩ := Reg.len_succ hl5
                            obtain ⟨x6, xs7, rfl, hl7⟩ := Reg.len_succ hl6
                            obtain ⟨x7, xs8, rfl, hl8⟩ := Reg.len_succ hl7
                            obtain ⟨x8, xs9, rfl, hl9⟩ := Reg.len_succ hl8
                            obtain ⟨x9, xs10, rfl, hl10⟩ := Reg.len_succ hl9
                            obtain ⟨x10, xs11, rfl, hl11⟩ := Reg.len_succ hl10
                            obtain ⟨x11, xs12, rfl, hl12⟩ := Reg.len_succ hl11
                            obtain ⟨x12, xs13, rfl, hl13⟩ := Reg.len_succ hl12
                            obtain ⟨x13, xs14, rfl, hl14⟩ := Reg.len_succ hl13
                            obtain rfl := List.eq_nil_of_length_eq_zero hl14
                            clear hl0_ hl1 hl2 hl3 hl4 hl5 hl6 hl7 hl8 hl9 hl10 hl11 hl12 hl13 hl14
                            obtain ⟨hq0, hq1, hq2, hq3, hq4, hq5, hq6, hq7, hq8, hq9, hq10, hq11, hq12, hq13, -⟩ := hf
                            obtain rfl : x0 = _ := hq0
                            obtain rfl : x1 = _ := hq1
                            obtain rfl : x2 = _ := hq2
                            obtain rfl : x3 = _ := hq3
                            obtain rfl : x4 = _ := hq4
                            obtain rfl : x5 = _ := hq5
                            obtain rfl : x6 = _ := hq6
                            obtain rfl : x7 = _ := hq7
                            obtain rfl : x8 = _ := hq8
                            obtain rfl : x9 = _ := hq9
                            obtain rfl : x10 = _ := hq10
                            obtain rfl : x11 = _ := hq11
                            obtain rfl : x12 = _ := hq12
                            obtain rfl : x13 = _ := hq13
                            simp only [Reg.putL, Act.put, List.setIfInBounds_toArray, List.set_cons_succ, List.set_cons_zero]
                            obtain rfl := hG.out
                            clear f0 f1 f2 f3 f4 f5 f6 g0 g1 g2 g3 g4
                            obtain ⟨eb, heb⟩ : ∃ eb, eb = eqB y x.f0 := ⟨_, rfl⟩
                            rw [← heb] at HANY ⊢
                            clear heb
                            go_wp2_with (fail)
                            go_roundg k2
                            case measure => omega
                            case rel => exact ⟨k + 1, by rw [HANY.out]; rfl, by have := HNTM.out; first | rfl | (simp; done) | (simp; unfold wrap64; omega), ⟨by omega⟩, HBD⟩
                    · have hkt1 : decide ((k : Int) < (nt : Int)) = false := decide_eq_false (by omega)
                      have hkt2 : decide (k < nt) = false := decide_eq_false hkt
                      have hke : tk.take k = tk := by rw [show k = tk.length by have := HNT.out; omega]; exact List.take_length
                      rw [hke]
                      have hcase := HLEFT.out x HXM.out
                      have hbig : tk.any (fun y => eqB y x.f0) = false → left < sizeE x.f0 := fun hf => by
                        rw [HLE.out]
                        rcases hcase with h | h
                        · rw [List.any_eq_false] at hf
                          exact absurd (eqB_self x.f0) (hf _ h)
                        · exact h
                      obtain ⟨b, hb⟩ : ∃ b, b = tk.any (fun y => eqB y x.f0) := ⟨_, rfl⟩
                      rw [← hb] at hbig ⊢
                      clear hke hcase hb
                      cases b with
                      | true =>
                        clear hbig
                        go_wp2_with (fail)
                        go_roundg k1
                        case measure => omega
                        case rel => exact ⟨i + 1, by first | rfl | (simp; done) | (simp; unfold wrap64; omega), ⟨by omega⟩, HB8⟩
                      | false =>
                        have hle : decide (sizeE x.f0 ≤ left) = false := decide_eq_false (by have := hbig rfl; omega)
                        obtain ⟨A2', c2', h2', hc2', hC2'⟩ := Kd.R_reads (Kd.R_below HR7.out HB8.out)
                        obtain ⟨rfl, hmm, rfl⟩ : A2 = A2' ∧ m = l'.length ∧ c2 = c2' := by simpa using h2'
                        obtain ⟨ad, hA, f0, f1, f2, f3, f4, f5, f6⟩ := at_T47 hC2' (i : Int) (by omega) (by omega)
                        subst hA
                        rw [Int.toNat_natCast] at f0 f1 f2 f3 f4 f5 f6
                        rw [← HX.out] at f0 f1 f2 f3 f4 f5 f6
                        have HZ := Aside0.mk (esize_any (HVL.out x HXM.out).1 wr (HT.out.below (below_then HB7.out HB7.out.size HB8.out)))
                        unfold encE at HZ
                        clear hbig h2' hC2' hmm hc2'
                        go_wp2_with ((go_at_call 17; refine HZ.out.mono ?_; rintro e w9 ⟨rfl, hb9⟩; have HB9 := Aside0.mk hb9; clear hb9 f0 f1 f2 f3 f4 f5 f6 HZ))
                        go_roundg k1
                        case measure => omega
                        case rel => exact ⟨i + 1, by first | rfl | (simp; done) | (simp; unfold wrap64; omega), ⟨by omega⟩, ⟨below_then HB8.out HB8.out.size HB9.out⟩⟩
              · have hlt1 : decide ((i : Int) < (m : Int)) = false := decide_eq_false (by omega)
                have hlt2 : decide (i < m) = false := decide_eq_false hlt
                have hB := below_then HB7.out HB7.out.size HB8.out
                have HBB := Aside0.mk hB
                have HLEN := Aside0.mk (show Calls Tryd.prog 12 #[.pointer (some ⟨g, 0, none⟩)] wr (fun e w' => e = .returned (.int .i64 (m : Int)) ∧ w' = wr) by rw [← HKEEP.out]; exact len_any W0.heap.size g v8 lf cm0 lo0 wr (HQ7.out.below HB8.out))
                have HAW := Aside0.mk (awake_any wr (HT.out.below hB))
                clear hB
                go_wp2_with (first | (go_at_call 12; refine HLEN.out.mono ?_; rintro e w9 ⟨rfl, rfl⟩) | (go_at_call 14; refine HAW.out.mono ?_; rintro e w9 ⟨rfl, hb9⟩; have HB9 := Aside0.mk hb9; clear hb9))
                go_ret
                exact ⟨rfl, below_then HBB.out HBB.out.size HB9.out⟩
end Go.Proofs.YtmifpookhhkgeaaDoor.Q
