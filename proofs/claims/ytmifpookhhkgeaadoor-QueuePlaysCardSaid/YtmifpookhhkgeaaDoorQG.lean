/- QueuePlays: the walk. -/
import Derived.Test.YtmifpookhhkgeaaDoorQY
import Derived.Test.YtmifpookhhkgeaaDoorQW
import Derived.Test.YtmifpookhhkgeaaDoorQM
import Derived.Test.YtmifpookhhkgeaaDoorP9
import Derived.Lib.ItoaNum
set_option linter.unusedVariables false
set_option linter.unusedSimpArgs false
namespace Go.Proofs.YtmifpookhhkgeaaDoor.Q
open Go.RowKit Go.Lib Go.Proofs.YtmifpookhhkgeaaDoorW.PrintWords Go.Proofs.YtmifpookhhkgeaaDoorW.PrintMore Go.Proofs.YtmifpookhhkgeaaDoorW.PrintLast Go.Proofs.YtmifpookhhkgeaaDoor.P Go.Proofs.YtmifpookhhkgeaaDoor.G
theorem bl1 : Go.Lib.bitLen 1 = 1 := by decide
theorem lim_l0 : ∀ (k x n : Nat), 1 ≤ x → x < 2 ^ k → k ≤ 63 → n + k ≤ 100 → watchfireref14_Limit.l0 (k + 1) (x : Int) (n : Int) = some (3 * ((n : Int) + Go.Lib.bitLen x - 1))
  | 0, x, n, h1, h2, _, _ => by simp at h2; omega
  | k + 1, x, n, h1, h2, h3, h4 => by
    have hx : x < 2 ^ 63 := Nat.lt_of_lt_of_le h2 (Nat.pow_le_pow_right (by omega) h3)
    unfold watchfireref14_Limit.l0
    by_cases h : 1 < x
    · rw [if_pos (by omega)]
      have e1 : wrap64 (Int.tdiv (x : Int) 2) = ((x / 2 : Nat) : Int) := by
        have : Int.tdiv (x : Int) 2 = ((x / 2 : Nat) : Int) := by rw [Int.tdiv_eq_ediv_of_nonneg (by omega)]; omega
        rw [this]; unfold wrap64; omega
      have e2 : wrap64 ((n : Int) + 1) = ((n + 1 : Nat) : Int) := by unfold wrap64; omega
      rw [e1, e2, lim_l0 k (x / 2) (n + 1) (by omega) (by rw [Nat.pow_succ] at h2; omega) (by omega) (by omega), Go.Lib.bitLen_half x (by omega) (by omega)]
      congr 1
      push_cast
      omega
    · rw [if_neg (by omega)]
      obtain rfl : x = 1 := by omega
      rw [bl1]
      congr 1
      unfold wrap64
      omega
theorem lim_same (a : Int) (h : (Lit.int .i64 a).wf = true) : ∃ r, queue_Limit.f a = some r ∧ watchfireref14_Limit.f 64 a = some r := by
  simp only [Lit.wf, Bool.and_eq_true, decide_eq_true_eq] at h
  have hb : a ≤ 9223372036854775807 := h.2
  by_cases h1 : 1 < a
  · obtain ⟨x, rfl⟩ : ∃ x : Nat, a = (x : Int) := ⟨a.toNat, by omega⟩
    have e := lim_l0 63 x 1 (by omega) (by omega) (by omega) (by omega)
    refine ⟨_, ?_, e⟩
    have hl : Go.Lib.bitLen x ≤ 64 := by
      have := Go.Lib.bitLenAux_bounds 64 x (by omega) (by omega)
      have h3 : Go.Lib.bitLenAux 64 x - 1 < 64 := (Nat.pow_lt_pow_iff_right (a := 2) (by omega)).1 (by omega)
      show Go.Lib.bitLenAux 64 x ≤ 64
      omega
    unfold queue_Limit.f mx
    rw [if_pos (by omega)]
    have e0 : IntKind.u64.wrap (x : Int) = (x : Int) := by
      simp [IntKind.wrap, IntKind.bits, IntKind.signed]
      omega
    rw [e0]
    unfold BLen.f
    rw [if_pos ⟨by omega, by omega⟩]
    simp only [Option.bind_some, Int.toNat_natCast]
    congr 1
    unfold wrap64
    omega
  · have e : watchfireref14_Limit.f 64 a = some 3 := by
      unfold watchfireref14_Limit.f watchfireref14_Limit.l0
      rw [if_neg (by omega)]
      kernel_rfl
    refine ⟨3, ?_, e⟩
    unfold queue_Limit.f mx
    by_cases h2 : (1 : Int) < a
    · omega
    · rw [if_neg h2]
      kernel_rfl
set_option maxHeartbeats 8000000 in
set_option maxRecDepth 100000 in
theorem plays_any (A : Option Addr) (c : Nat) (l0 : List S42) (nodes : Int) (W0 : World) (hC : Kd.C k42 W0 A l0.length l0) (hc : l0.length ≤ c) (hok : ActsOk l0) (hT : TabS W0) (hnw : (Lit.int .i64 nodes).wf = true) :
    Calls Tryd.prog 6 #[.slice A l0.length c, .int .i64 nodes] W0 fun e w' => e = .returned (.bool true) ∧ Below W0.heap.size W0 w' := by
  have HC := Aside0.mk hC
  have HT := Aside0.mk hT
  have HOK := Aside0.mk hok
  obtain ⟨n, hn⟩ : ∃ n, n = l0.length := ⟨_, rfl⟩
  rw [← hn] at hc ⊢
  have HN := Aside0.mk hn
  clear hC hT hok hn
  by_cases hbig : (n : Int) > 120
  · have hb1 : decide ((n : Int) > 120) = true := decide_eq_true hbig
    have hb2 : decide ((120 : Int) < (n : Int)) = true := hb1
    have hb3 : decide (120 < n) = true := decide_eq_true (by omega)
    go_enter Tryd.func6, Tryd.ntmps6
    go_wp2_with (fail)
    refine (awake_any W0 HT.out).mono ?_
    rintro e w1 ⟨rfl, hb⟩
    have HB := Aside0.mk hb
    clear hb
    go_wp2_with (fail)
    go_ret
    exact ⟨rfl, HB.out⟩
  · have hb1 : decide ((n : Int) > 120) = false := decide_eq_false hbig
    have hb2 : decide ((120 : Int) < (n : Int)) = false := hb1
    have hb3 : decide (120 < n) = false := decide_eq_false (by omega)
    have hn120 : n ≤ 120 := by omega
    go_enter Tryd.func6, Tryd.ntmps6
    go_wp2_with (fail)
    refine (new_any W0.heap.size W0 (Nat.le_refl _)).mono ?_
    rintro e w1 ⟨g, rfl, hq, hg, hbl⟩
    have HS1 := Aside0.mk (show St W0 w1 g (.slice none 0 0) (.slice none 0 0) [] [] 0 0 0 from ⟨hq, Kd.R_nil _ _ _ _ _, Inv.start, hbl⟩)
    clear hq hg hbl hb1 hb2 hb3 hbig
    go_wp2_with (fail)
    obtain ⟨bx, hbx0⟩ : ∃ bx, bx = w1.heap.size := ⟨_, rfl⟩
    obtain ⟨w2, hw2⟩ : ∃ w2, w2 = w1.alloc (.cells #[.slice none 0 0, .int .i64 0, .int .i64 0] 38) := ⟨_, rfl⟩
    have HBK := Aside0.mk (show w2.heap[bx]? = some (.cells #[.slice none 0 0, .int .i64 0, .int .i64 0] 38 (0, 0)) by rw [hw2, hbx0]; exact heap_alloc_new w1 _)
    have HS2 := Aside0.mk (HS1.out.below (show Below w1.heap.size w1 w2 by rw [hw2]; exact below_alloc (Below.refl _ _) _))
    have hbx : W0.heap.size ≤ bx := by rw [hbx0]; exact HS1.out.low.size
    try rw [← hw2]
    try rw [← hbx0]
    clear hbx0 hw2 HS1
    go_loopg [7, 8] (n + 1) (fun kq v6 v7 wr => ∃ (j : Nat) (v : Value) (A0 : Option Addr) (n0 c0 : Nat) (l L : List S47) (cm0 lo0 : Int), v6 = .bool true ∧ v7 = .int .i64 (j : Int) ∧ Aside0 (j ≤ n ∧ j + kq = n + 1) ∧ Aside0 (St W0 wr g v (.slice A0 n0 c0) l L cm0 lo0 j) ∧ Aside0 (wr.heap[bx]? = some (.cells #[.slice A0 n0 c0, .int .i64 cm0, .int .i64 lo0] 38 (0, 0))))
    case atStart => exact ⟨0, _, none, 0, 0, [], [], 0, 0, rfl, rfl, ⟨by omega⟩, HS2, HBK⟩
    case round =>
      clear HS2 HBK
      obtain ⟨j, v, A0, n0, c0, l, L, cm0, lo0, rfl, rfl, HJ, HS, HBK⟩ := hrel
      obtain ⟨hj0, hjk⟩ := HJ.out
      by_cases hlt : j < n
      · cases gk with
        | zero => exact absurd hjk (by omega)
        | succ k1 =>
          have hlt1 : decide ((j : Int) < (n : Int)) = true := decide_eq_true (by omega)
          have hlt2 : decide (j < n) = true := decide_eq_true hlt
          obtain ⟨ad, hA, y, hye, f0, f1, f2, f3, f4, f5, f6, f7⟩ := at_T42 HC.out j (by have := HN.out; omega)
          subst hA
          have hyok : y.f2 ≤ 9223372036854775807 := by rw [hye]; exact HOK.out _ (List.getElem_mem _)
          clear hye
          obtain ⟨wd, hwd⟩ : ∃ wd, wd = wr.drew := ⟨_, rfl⟩
          have HD := Aside0.mk (show Below wr.heap.size wr wd by rw [hwd]; exact (Below.refl _ _).drew)
          have HWD := Aside0.mk hwd
          clear hwd
          go_wp2_with (fail)
          have HSD := Aside0.mk (HS.out.below HD.out)
          have hbk := (HD.out.block _ (blk_lt HBK.out)).trans HBK.out
          have hB := HSD.out.low
          replace f0 := (hB.cell (World.block_lt_of_cell? W0 _ f0)).trans f0
          replace f1 := (hB.cell (World.block_lt_of_cell? W0 _ f1)).trans f1
          replace f2 := (hB.cell (World.block_lt_of_cell? W0 _ f2)).trans f2
          replace f3 := (hB.cell (World.block_lt_of_cell? W0 _ f3)).trans f3
          replace f4 := (hB.cell (World.block_lt_of_cell? W0 _ f4)).trans f4
          replace f5 := (hB.cell (World.block_lt_of_cell? W0 _ f5)).trans f5
          replace f6 := (hB.cell (World.block_lt_of_cell? W0 _ f6)).trans f6
          replace f7 := (hB.cell (World.block_lt_of_cell? W0 _ f7)).trans f7
          have cz := (blk_cell hbk 0).trans rfl
          have cy := (blk_cell hbk 1).trans rfl
          have cx := (blk_cell hbk 2).trans rfl
          have hdo := do_st HSD.out y HT.out (by omega) hyok hbk
          unfold enc42 at hdo
          have HDO := Aside0.mk hdo
          clear hdo hbk hB HSD HS HBK HD
          refine Reg.region_pivot (Γ := (Value) × (Option Addr) × (Nat) × (Nat) × (List S47) × (List S47) × (Int) × (Int)) hmix [some 22, some 23, some 24, some 25, some 26, some 27, some 28, some 21, some 29, some 30, none, some 7] [[], [], [], [], [2, 3], [4], [0, 1, 5], [6], [7], [7], [8, 6, 0, 1, 2, 3, 4, 5, 6, 7, 8], [9, 10, 0, 1, 2, 3, 4, 5, 6, 7, 8, 9, 10]] 6 10 [0, 1, 2, 3, 4, 5] (fun w => w = wd) (fun γ d w => St W0 w g γ.1 (.slice γ.2.1 γ.2.2.1 γ.2.2.2.1) γ.2.2.2.2.1 γ.2.2.2.2.2.1 γ.2.2.2.2.2.2.1 γ.2.2.2.2.2.2.2 (j + 1) ∧ w.heap[bx]? = some (.cells #[bif d then .slice γ.2.1 γ.2.2.1 γ.2.2.2.1 else .slice A0 n0 c0, bif d then .int .i64 γ.2.2.2.2.2.2.1 else .int .i64 cm0, bif d then .int .i64 γ.2.2.2.2.2.2.2 else .int .i64 lo0] 38 (0, 0))) [(fun v => v = (.pointer (some ⟨g, 0, none⟩) : Value)), (fun v => v = (.agg #[.slice A0 n0 c0, .int .i64 cm0, .int .i64 lo0] : Value)), (fun v => v = (.slice (some ad) n c : Value)), (fun v => v = (.int .i64 (j : Int) : Value)), (fun v => v = (.pointer (some (ad.add (j * 8))) : Value)), (fun v => v = (.agg #[.bool y.f0, .string y.f1.f0, .int .i64 y.f1.f1, .int .u16 y.f1.f2, .string y.f1.f3, .int .i64 y.f1.f4, .int .i64 y.f2, .int .i64 y.f3] : Value)), (fun _ => False), (fun _ => False), (fun _ => False), (fun _ => False), (fun _ => False), (fun _ => False)] (fun γ => [(fun v => v = (.pointer (some ⟨g, 0, none⟩) : Value)), (fun v => v = (.agg #[.slice A0 n0 c0, .int .i64 cm0, .int .i64 lo0] : Value)), (fun v => v = (.slice (some ad) n c : Value)), (fun v => v = (.int .i64 (j : Int) : Value)), (fun v => v = (.pointer (some (ad.add (j * 8))) : Value)), (fun v => v = (.agg #[.bool y.f0, .string y.f1.f0, .int .i64 y.f1.f1, .int .u16 y.f1.f2, .string y.f1.f3, .int .i64 y.f1.f4, .int .i64 y.f2, .int .i64 y.f3] : Value)), (fun v => v = (.tuple #[.agg #[.slice γ.2.1 γ.2.2.1 γ.2.2.2.1, .int .i64 γ.2.2.2.2.2.2.1, .int .i64 γ.2.2.2.2.2.2.2], .bool true] : Value)), (fun v => v = (.tuple #[.agg #[.slice γ.2.1 γ.2.2.1 γ.2.2.2.1, .int .i64 γ.2.2.2.2.2.2.1, .int .i64 γ.2.2.2.2.2.2.2], .bool true] : Value)), (fun v => v = (.agg #[.slice γ.2.1 γ.2.2.1 γ.2.2.2.1, .int .i64 γ.2.2.2.2.2.2.1, .int .i64 γ.2.2.2.2.2.2.2] : Value)), (fun v => v = (.bool true : Value)), (fun v => True), (fun v => v = (.bool true : Value))]) rfl (by kernel_rfl) (by kernel_rfl) (fun γ => Reg.imp_cons (fun _ h => h) (Reg.imp_cons (fun _ h => h) (Reg.imp_cons (fun _ h => h) (Reg.imp_cons (fun _ h => h) (Reg.imp_cons (fun _ h => h) (Reg.imp_cons (fun _ h => h) (Reg.imp_cons (fun _ h => h.elim) (Reg.imp_cons (fun _ h => h.elim) (Reg.imp_cons (fun _ h => h.elim) (Reg.imp_cons (fun _ h => h.elim) (Reg.imp_cons (fun _ h => h.elim) (Reg.imp_cons (fun _ h => h.elim) (Reg.imp_nil (γ := True)))))))))))))) (HWD.out.symm) ?hs ?he
          case hs =>
            intro xs0 xs hx0 hl0_
            clear hx0
            obtain ⟨x0, xs1, rfl, hl1⟩ := Reg.len_succ hl0_
            obtain ⟨x1, xs2, rfl, hl2⟩ := Reg.len_succ hl1
            obtain ⟨x2, xs3, rfl, hl3⟩ := Reg.len_succ hl2
            obtain ⟨x3, xs4, rfl, hl4⟩ := Reg.len_succ hl3
            obtain ⟨x4, xs5, rfl, hl5⟩ := Reg.len_succ hl4
            obtain ⟨x5, xs6, rfl, hl6⟩ := Reg.len_succ hl5
            obtain ⟨x6, xs7, rfl, hl7⟩ := Reg.len_succ hl6
            obtain ⟨x7, xs8, rfl, hl8⟩ := Reg.len_succ hl7
            obtain ⟨x8, xs9, rfl, hl9⟩ := Reg.len_succ hl8
            obtain ⟨x9, xs10, rfl, hl10⟩ := Reg.len_succ hl9
            obtain ⟨x10, xs11, rfl, hl11⟩ := Reg.len_succ hl10
            obtain ⟨x11, xs12, rfl, hl12⟩ := Reg.len_succ hl11
            obtain rfl := List.eq_nil_of_length_eq_zero hl12
            clear hl0_ hl1 hl2 hl3 hl4 hl5 hl6 hl7 hl8 hl9 hl10 hl11 hl12
            simp only [Reg.putL, Act.put, List.setIfInBounds_toArray, List.set_cons_succ, List.set_cons_zero]
            refine ⟨fun wr hG hf _ => ?_, ?_⟩
            · skip
              replace hG : wr = wd := hG
              clear hf
              refine .inl ⟨by rfl, ?_⟩
              simp only [Reg.ung]
              subst hG
              go_wp2; exact ⟨_, rfl, rfl, rfl⟩
            refine ⟨fun wr hG hf _ => ?_, ?_⟩
            · skip
              replace hG : wr = wd := hG
              clear hf
              refine .inl ⟨by rfl, ?_⟩
              simp only [Reg.ung]
              subst hG
              go_wp2; exact ⟨_, rfl, rfl, rfl⟩
            refine ⟨fun wr hG hf _ => ?_, ?_⟩
            · skip
              replace hG : wr = wd := hG
              clear hf
              refine .inl ⟨by rfl, ?_⟩
              simp only [Reg.ung]
              subst hG
              go_wp2; exact ⟨_, rfl, rfl, rfl⟩
            refine ⟨fun wr hG hf _ => ?_, ?_⟩
            · skip
              replace hG : wr = wd := hG
              clear hf
              refine .inl ⟨by rfl, ?_⟩
              simp only [Reg.ung]
              subst hG
              go_wp2; exact ⟨_, rfl, rfl, rfl⟩
            refine ⟨fun wr hG hf _ => ?_, ?_⟩
            · skip
              replace hG : wr = wd := hG
              obtain ⟨hq0, hq1, -⟩ := hf
              obtain rfl : x2 = (.slice (some ad) n c : Value) := hq0
              obtain rfl : x3 = (.int .i64 (j : Int) : Value) := hq1
              refine .inl ⟨by rfl, ?_⟩
              simp only [Reg.ung]
              subst hG
              go_wp2; exact ⟨_, rfl, rfl, rfl⟩
            refine ⟨fun wr hG hf _ => ?_, ?_⟩
            · skip
              replace hG : wr = wd := hG
              obtain ⟨hq0, -⟩ := hf
              obtain rfl : x4 = (.pointer (some (ad.add (j * 8))) : Value) := hq0
              refine .inl ⟨by rfl, ?_⟩
              simp only [Reg.ung]
              subst hG
              go_wp2; exact ⟨_, rfl, rfl, rfl⟩
            refine ⟨fun wr hG hf _ => ?_, ?_⟩
            · skip
              replace hG : wr = wd := hG
              obtain ⟨hq0, hq1, hq2, -⟩ := hf
              obtain rfl : x0 = (.pointer (some ⟨g, 0, none⟩) : Value) := hq0
              obtain rfl : x1 = (.agg #[.slice A0 n0 c0, .int .i64 cm0, .int .i64 lo0] : Value) := hq1
              obtain rfl : x5 = (.agg #[.bool y.f0, .string y.f1.f0, .int .i64 y.f1.f1, .int .u16 y.f1.f2, .string y.f1.f3, .int .i64 y.f1.f4, .int .i64 y.f2, .int .i64 y.f3] : Value) := hq2
              refine .inl ⟨by rfl, ?_⟩
              simp only [Reg.ung]
              subst hG
              go_wp2_with ((go_at_call 15; refine HDO.out.mono ?_; rintro e w' ⟨v1, A1, n1, c1, l1, L1, cm1, lo1, rfl, hS1, hk1⟩)); exact ⟨_, rfl, ⟨v1, A1, n1, c1, l1, L1, cm1, lo1⟩, ⟨hS1, hk1⟩, rfl⟩
            refine ⟨fun γ d wr hG hf _ => ?_, ?_⟩
            · skip
              obtain ⟨v1, A1, n1, c1, l1, L1, cm1, lo1⟩ := γ
              replace hG : St W0 wr g v1 (.slice A1 n1 c1) l1 L1 cm1 lo1 (j + 1) ∧ wr.heap[bx]? = some (.cells #[bif d then .slice A1 n1 c1 else .slice A0 n0 c0, bif d then .int .i64 cm1 else .int .i64 cm0, bif d then .int .i64 lo1 else .int .i64 lo0] 38 (0, 0)) := hG
              obtain ⟨hq0, -⟩ := hf
              obtain rfl : x6 = (.tuple #[.agg #[.slice A1 n1 c1, .int .i64 cm1, .int .i64 lo1], .bool true] : Value) := hq0
              refine .inl ⟨by rfl, ?_⟩
              simp only [Reg.ung]
              go_wp2
              exact ⟨_, rfl, by simpa using hG, rfl⟩
            refine ⟨fun γ d wr hG hf _ => ?_, ?_⟩
            · skip
              obtain ⟨v1, A1, n1, c1, l1, L1, cm1, lo1⟩ := γ
              replace hG : St W0 wr g v1 (.slice A1 n1 c1) l1 L1 cm1 lo1 (j + 1) ∧ wr.heap[bx]? = some (.cells #[bif d then .slice A1 n1 c1 else .slice A0 n0 c0, bif d then .int .i64 cm1 else .int .i64 cm0, bif d then .int .i64 lo1 else .int .i64 lo0] 38 (0, 0)) := hG
              obtain ⟨hq0, -⟩ := hf
              obtain rfl : x7 = (.tuple #[.agg #[.slice A1 n1 c1, .int .i64 cm1, .int .i64 lo1], .bool true] : Value) := hq0
              refine .inl ⟨by rfl, ?_⟩
              simp only [Reg.ung]
              go_wp2
              exact ⟨_, rfl, by simpa using hG, rfl⟩
            refine ⟨fun γ d wr hG hf _ => ?_, ?_⟩
            · skip
              obtain ⟨v1, A1, n1, c1, l1, L1, cm1, lo1⟩ := γ
              replace hG : St W0 wr g v1 (.slice A1 n1 c1) l1 L1 cm1 lo1 (j + 1) ∧ wr.heap[bx]? = some (.cells #[bif d then .slice A1 n1 c1 else .slice A0 n0 c0, bif d then .int .i64 cm1 else .int .i64 cm0, bif d then .int .i64 lo1 else .int .i64 lo0] 38 (0, 0)) := hG
              obtain ⟨hq0, -⟩ := hf
              obtain rfl : x7 = (.tuple #[.agg #[.slice A1 n1 c1, .int .i64 cm1, .int .i64 lo1], .bool true] : Value) := hq0
              refine .inl ⟨by rfl, ?_⟩
              simp only [Reg.ung]
              go_wp2
              exact ⟨_, rfl, by simpa using hG, rfl⟩
            refine ⟨fun γ d wr hG hf _ => ?_, ?_⟩
            · skip
              obtain ⟨v1, A1, n1, c1, l1, L1, cm1, lo1⟩ := γ
              replace hG : St W0 wr g v1 (.slice A1 n1 c1) l1 L1 cm1 lo1 (j + 1) ∧ wr.heap[bx]? = some (.cells #[bif d then .slice A1 n1 c1 else .slice A0 n0 c0, bif d then .int .i64 cm1 else .int .i64 cm0, bif d then .int .i64 lo1 else .int .i64 lo0] 38 (0, 0)) := hG
              obtain ⟨hq0, -, -, -, -, -, -, -, -, -, -, -⟩ := hf
              obtain rfl : x8 = (.agg #[.slice A1 n1 c1, .int .i64 cm1, .int .i64 lo1] : Value) := hq0
              refine .inl ⟨by rfl, ?_⟩
              simp only [Reg.ung]
              obtain ⟨hS1, hb1⟩ := hG; have cz0 := (blk_cell hb1 0).trans rfl; have cz1 := (blk_cell hb1 1).trans rfl; have cz2 := (blk_cell hb1 2).trans rfl; have fz0 := blk_frozen hb1 0; have fz1 := blk_frozen hb1 1; have fz2 := blk_frozen hb1 2; have HS1 := Aside0.mk hS1; have HB1 := Aside0.mk hb1; clear hS1 hb1; go_wp2; exact ⟨undef, rfl, ⟨HS1.out.g6 ((((G6.refl _ bx).set 0 _).set 1 _).set 2 _) HB1.out hbx, by simpa using blk_put (blk_put (blk_put HB1.out 0 (.slice A1 n1 c1) rfl) 1 (.int .i64 cm1) rfl) 2 (.int .i64 lo1) rfl⟩, trivial⟩
            refine ⟨fun γ d wr hG hf _ => ?_, ?_⟩
            · skip
              obtain ⟨v1, A1, n1, c1, l1, L1, cm1, lo1⟩ := γ
              replace hG : St W0 wr g v1 (.slice A1 n1 c1) l1 L1 cm1 lo1 (j + 1) ∧ wr.heap[bx]? = some (.cells #[bif d then .slice A1 n1 c1 else .slice A0 n0 c0, bif d then .int .i64 cm1 else .int .i64 cm0, bif d then .int .i64 lo1 else .int .i64 lo0] 38 (0, 0)) := hG
              obtain ⟨hq0, -, -, -, -, -, -, -, -, -, -, -, -, -⟩ := hf
              obtain rfl : x9 = (.bool true : Value) := hq0
              refine .inl ⟨by rfl, ?_⟩
              simp only [Reg.ung]
              go_wp2
              exact ⟨_, rfl, by simpa using hG, rfl⟩
            exact trivial
          case he =>
            intro xs hl0_ γ wr hG hf
            obtain ⟨x0, xs1, rfl, hl1⟩ := Reg.len_succ hl0_
            obtain ⟨x1, xs2, rfl, hl2⟩ := Reg.len_succ hl1
            obtain ⟨x2, xs3, rfl, hl3⟩ := Reg.len_succ hl2
            obtain ⟨x3, xs4, rfl, hl4⟩ := Reg.len_succ hl3
            obtain ⟨x4, xs5, rfl, hl5⟩ := Reg.len_succ hl4
            obtain ⟨x5, xs6, rfl, hl6⟩ := Reg.len_succ hl5
            obtain ⟨x6, xs7, rfl, hl7⟩ := Reg.len_succ hl6
            obtain ⟨x7, xs8, rfl, hl8⟩ := Reg.len_succ hl7
            obtain ⟨x8, xs9, rfl, hl9⟩ := Reg.len_succ hl8
            obtain ⟨x9, xs10, rfl, hl10⟩ := Reg.len_succ hl9
            obtain ⟨x10, xs11, rfl, hl11⟩ := Reg.len_succ hl10
            obtain ⟨x11, xs12, rfl, hl12⟩ := Reg.len_succ hl11
            obtain rfl := List.eq_nil_of_length_eq_zero hl12
            clear hl0_ hl1 hl2 hl3 hl4 hl5 hl6 hl7 hl8 hl9 hl10 hl11 hl12
            obtain ⟨v1, A1, n1, c1, l1, L1, cm1, lo1⟩ := γ
            replace hG : St W0 wr g v1 (.slice A1 n1 c1) l1 L1 cm1 lo1 (j + 1) ∧ wr.heap[bx]? = some (.cells #[bif true then .slice A1 n1 c1 else .slice A0 n0 c0, bif true then .int .i64 cm1 else .int .i64 cm0, bif true then .int .i64 lo1 else .int .i64 lo0] 38 (0, 0)) := hG
            obtain ⟨hq0, hq1, hq2, hq3, hq4, hq5, hq6, hq7, hq8, hq9, hq10, hq11, -⟩ := hf
            obtain rfl : x0 = (.pointer (some ⟨g, 0, none⟩) : Value) := hq0
            obtain rfl : x1 = (.agg #[.slice A0 n0 c0, .int .i64 cm0, .int .i64 lo0] : Value) := hq1
            obtain rfl : x2 = (.slice (some ad) n c : Value) := hq2
            obtain rfl : x3 = (.int .i64 (j : Int) : Value) := hq3
            obtain rfl : x4 = (.pointer (some (ad.add (j * 8))) : Value) := hq4
            obtain rfl : x5 = (.agg #[.bool y.f0, .string y.f1.f0, .int .i64 y.f1.f1, .int .u16 y.f1.f2, .string y.f1.f3, .int .i64 y.f1.f4, .int .i64 y.f2, .int .i64 y.f3] : Value) := hq5
            obtain rfl : x6 = (.tuple #[.agg #[.slice A1 n1 c1, .int .i64 cm1, .int .i64 lo1], .bool true] : Value) := hq6
            obtain rfl : x7 = (.tuple #[.agg #[.slice A1 n1 c1, .int .i64 cm1, .int .i64 lo1], .bool true] : Value) := hq7
            obtain rfl : x8 = (.agg #[.slice A1 n1 c1, .int .i64 cm1, .int .i64 lo1] : Value) := hq8
            obtain rfl : x9 = (.bool true : Value) := hq9
            replace hq10 : True := hq10
            obtain rfl : x11 = (.bool true : Value) := hq11
            simp only [Reg.putL, Act.put, List.setIfInBounds_toArray, List.set_cons_succ, List.set_cons_zero]
            simp only [cond_true] at hG; obtain ⟨hS1, hb1⟩ := hG
            have HS1 := Aside0.mk hS1
            have HB1 := Aside0.mk hb1
            clear hS1 hb1 HDO f0 f1 f2 f3 f4 f5 f6 f7 cz cy cx
            have HSAME := Aside0.mk (show Calls Tryd.prog 18 #[.pointer (some ⟨g, 0, none⟩), .agg #[.slice A1 n1 c1, .int .i64 cm1, .int .i64 lo1]] wr _ from same_any HS1.out)
            have r0 := (blk_cell HB1.out 0).trans rfl
            have r1 := (blk_cell HB1.out 1).trans rfl
            have r2 := (blk_cell HB1.out 2).trans rfl
            go_wp2_with ((go_at_call 18; refine HSAME.out.mono ?_; rintro e w9 ⟨rfl, hb9⟩; have HB9 := Aside0.mk hb9; clear hb9 r0 r1 r2 HSAME))
            go_roundg k1
            case measure => omega
            case rel => exact ⟨j + 1, v1, A1, n1, c1, l1, L1, cm1, lo1, rfl, by first | rfl | simp | (simp; unfold wrap64; omega), ⟨by have := HJ.out; omega⟩, ⟨HS1.out.below HB9.out⟩, ⟨(HB9.out.block _ (blk_lt HB1.out)).trans HB1.out⟩⟩
      · have hlt1 : decide ((j : Int) < (n : Int)) = false := decide_eq_false (by omega)
        have hlt2 : decide (j < n) = false := decide_eq_false hlt
        have hj120 : j ≤ 120 := by omega
        clear HJ hj0 hjk hlt
        obtain ⟨lim, hl1, hl2⟩ := lim_same nodes hnw
        have HAW := Aside0.mk hl1
        have HLM := Aside0.mk hl2
        clear hl1 hl2
        have HTT := Aside0.mk (HT.out.below HS.out.low)
        go_wp2_with (first | (go_at_call 19; refine (limit_any nodes lim _ HAW.out).mono ?_; rintro e w9 ⟨rfl, hb9⟩; have HB9 := Aside0.mk hb9; clear hb9) | (go_at_call 20; refine (watchfireref14_Limit.calls 64 nodes lim _ HLM.out).mono ?_; rintro e w10 ⟨rfl, hb10⟩; have HB10 := Aside0.mk (below_then HB9.out HB9.out.size hb10.below); clear hb10) | (go_at_call 14; refine (awake_any _ (HTT.out.below HB10.out)).mono ?_; rintro e w11 ⟨rfl, hb11⟩; have HB11 := Aside0.mk hb11; clear hb11))
        go_ret
        exact ⟨rfl, below_then HS.out.low HS.out.low.size (below_then HB10.out HB10.out.size HB11.out)⟩
end Go.Proofs.YtmifpookhhkgeaaDoor.Q
