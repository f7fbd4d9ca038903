/- QueueLeast: the walk. -/
import Derived.Test.YtmifpookhhkgeaaDoorQY
import Derived.Test.YtmifpookhhkgeaaDoorQW
set_option linter.unusedVariables false
set_option linter.unusedSimpArgs false
namespace Go.Proofs.YtmifpookhhkgeaaDoor.Q
open Go.RowKit Go.Lib Go.Proofs.YtmifpookhhkgeaaDoorW.PrintWords Go.Proofs.YtmifpookhhkgeaaDoorW.PrintMore Go.Proofs.YtmifpookhhkgeaaDoorW.PrintLast Go.Proofs.YtmifpookhhkgeaaDoor.P Go.Proofs.YtmifpookhhkgeaaDoor.G
theorem takeL_all (limit : Int) (l : List S47) (h : ∀ x ∈ l, checkC x.f0 = 0 ∧ 0 ≤ x.f1 ∧ x.f1 ≤ 1000000000) (room : Int) (hr : (l.length : Int) * 20002 ≤ room) : (takeL l room limit).1 = l.map (·.f0) := by
  induction l generalizing room with
  | nil => rfl
  | cons x t ih =>
    have h1 := h x (by simp)
    have hs := size_rng h1.1
    rw [List.length_cons] at hr
    rw [takeL_cons, if_pos (by have := hs.2; omega)]
    simp only [List.map_cons]
    rw [ih (fun y hy => h y (List.mem_cons_of_mem _ hy)) _ (by have := hs.2; omega)]
theorem rd27_map (l : List S47) (j : Nat) (h : j < l.length) : rd_T27 (l.map (·.f0)) (j : Int) = (rd_T47 l (j : Int)).f0 := by
  unfold rd_T27 rd_T47
  simp [h]
attribute [local go_sem high] eqA27
set_option maxHeartbeats 8000000 in
set_option maxRecDepth 100000 in
theorem least_any (A : Option Addr) (c : Nat) (l0 : List S42) (W0 : World) (hC : Kd.C k42 W0 A l0.length l0) (hc : l0.length ≤ c) (hok : ActsOk l0) (hT : TabS W0) :
    Calls Tryd.prog 5 #[.slice A l0.length c] W0 fun e w' => e = .returned (.bool true) ∧ Below W0.heap.size W0 w' := by
  have HC := Aside0.mk hC
  have HT := Aside0.mk hT
  have HOK := Aside0.mk hok
  obtain ⟨n, hn⟩ : ∃ n, n = l0.length := ⟨_, rfl⟩
  rw [← hn] at hc ⊢
  have HN := Aside0.mk hn
  clear hC hT hok hn
  by_cases hbig : (n : Int) > 120
  · have hb1 : decide ((n : Int) > 120) = true := decide_eq_true hbig
    have hb2 : decide ((120 : Int) < (n : Int)) = true := hb1
    have hb3 : decide (120 < n) = true := decide_eq_true (by omega)
    go_enter Tryd.func5, Tryd.ntmps5
    go_wp2_with (fail)
    refine (awake_any W0 HT.out).mono ?_
    rintro e w1 ⟨rfl, hb⟩
    have HB := Aside0.mk hb
    clear hb
    go_wp2_with (fail)
    go_ret
    exact ⟨rfl, HB.out⟩
  · have hb1 : decide ((n : Int) > 120) = false := decide_eq_false hbig
    have hb2 : decide ((120 : Int) < (n : Int)) = false := hb1
    have hb3 : decide (120 < n) = false := decide_eq_false (by omega)
    have hn120 : n ≤ 120 := by omega
    go_enter Tryd.func5, Tryd.ntmps5
    go_wp2_with (fail)
    refine (new_any W0.heap.size W0 (Nat.le_refl _)).mono ?_
    rintro e w1 ⟨g, rfl, hq, hg, hbl⟩
    have HS1 := Aside0.mk (show St W0 w1 g (.slice none 0 0) (.slice none 0 0) [] [] 0 0 0 from ⟨hq, Kd.R_nil _ _ _ _ _, Inv.start, hbl⟩)
    clear hq hg hbl hb1 hb2 hb3 hbig
    go_wp2_with (fail)
    obtain ⟨bx, hbx0⟩ : ∃ bx, bx = w1.heap.size := ⟨_, rfl⟩
    obtain ⟨w2, hw2⟩ : ∃ w2, w2 = w1.alloc (.cells #[.slice none 0 0, .int .i64 0, .int .i64 0] 38) := ⟨_, rfl⟩
    have HBK := Aside0.mk (show w2.heap[bx]? = some (.cells #[.slice none 0 0, .int .i64 0, .int .i64 0] 38 (0, 0)) by rw [hw2, hbx0]; exact heap_alloc_new w1 _)
    have HS2 := Aside0.mk (HS1.out.below (show Below w1.heap.size w1 w2 by rw [hw2]; exact below_alloc (Below.refl _ _) _))
    have hbx : W0.heap.size ≤ bx := by rw [hbx0]; exact HS1.out.low.size
    try rw [← hw2]
    try rw [← hbx0]
    clear hbx0 hw2 HS1
    go_loopg [5] (n + 1) (fun kq v7 wr => ∃ (j : Nat) (v : Value) (A0 : Option Addr) (n0 c0 : Nat) (l L : List S47) (cm0 lo0 : Int), v7 = .int .i64 (j : Int) ∧ Aside0 (j ≤ n ∧ j + kq = n + 1) ∧ Aside0 (St W0 wr g v (.slice A0 n0 c0) l L cm0 lo0 j) ∧ Aside0 (wr.heap[bx]? = some (.cells #[.slice A0 n0 c0, .int .i64 cm0, .int .i64 lo0] 38 (0, 0))))
    case atStart => exact ⟨0, _, none, 0, 0, [], [], 0, 0, rfl, ⟨by omega⟩, HS2, HBK⟩
    case round =>
      clear HS2 HBK
      obtain ⟨j, v, A0, n0, c0, l, L, cm0, lo0, rfl, HJ, HS, HBK⟩ := hrel
      obtain ⟨hj0, hjk⟩ := HJ.out
      by_cases hlt : j < n
      · cases gk with
        | zero => exact absurd hjk (by omega)
        | succ k1 =>
          have hlt1 : decide ((j : Int) < (n : Int)) = true := decide_eq_true (by omega)
          have hlt2 : decide (j < n) = true := decide_eq_true hlt
          obtain ⟨ad, hA, y, hye, f0, f1, f2, f3, f4, f5, f6, f7⟩ := at_T42 HC.out j (by have := HN.out; omega)
          subst hA
          have hyok : y.f2 ≤ 9223372036854775807 := by rw [hye]; exact HOK.out _ (List.getElem_mem _)
          clear hye
          obtain ⟨wd, hwd⟩ : ∃ wd, wd = wr.drew := ⟨_, rfl⟩
          have HD := Aside0.mk (show Below wr.heap.size wr wd by rw [hwd]; exact (Below.refl _ _).drew)
          have HWD := Aside0.mk hwd
          clear hwd
          go_wp2_with (fail)
          have HSD := Aside0.mk (HS.out.below HD.out)
          have hbk := (HD.out.block _ (blk_lt HBK.out)).trans HBK.out
          have hB := HSD.out.low
          replace f0 := (hB.cell (World.block_lt_of_cell? W0 _ f0)).trans f0
          replace f1 := (hB.cell (World.block_lt_of_cell? W0 _ f1)).trans f1
          replace f2 := (hB.cell (World.block_lt_of_cell? W0 _ f2)).trans f2
          replace f3 := (hB.cell (World.block_lt_of_cell? W0 _ f3)).trans f3
          replace f4 := (hB.cell (World.block_lt_of_cell? W0 _ f4)).trans f4
          replace f5 := (hB.cell (World.block_lt_of_cell? W0 _ f5)).trans f5
          replace f6 := (hB.cell (World.block_lt_of_cell? W0 _ f6)).trans f6
          replace f7 := (hB.cell (World.block_lt_of_cell? W0 _ f7)).trans f7
          have cz := (blk_cell hbk 0).trans rfl
          have cy := (blk_cell hbk 1).trans rfl
          have cx := (blk_cell hbk 2).trans rfl
          have hdo := do_st HSD.out y HT.out (by omega) hyok hbk
          unfold enc42 at hdo
          have HDO := Aside0.mk hdo
          clear hdo hbk hB HSD HS HBK HD
          refine Reg.region_pivot (Γ := (Value) × (Option Addr) × (Nat) × (Nat) × (List S47) × (List S47) × (Int) × (Int)) hmix [some 23, some 24, some 25, some 26, some 27, some 28, some 29, some 22, some 30, some 31, none] [[], [], [], [], [2, 3], [4], [0, 1, 5], [6], [7], [7], [8, 6, 0, 1, 2, 3, 4, 5, 6, 7, 8]] 6 10 [0, 1, 2, 3, 4, 5] (fun w => w = wd) (fun γ d w => St W0 w g γ.1 (.slice γ.2.1 γ.2.2.1 γ.2.2.2.1) γ.2.2.2.2.1 γ.2.2.2.2.2.1 γ.2.2.2.2.2.2.1 γ.2.2.2.2.2.2.2 (j + 1) ∧ w.heap[bx]? = some (.cells #[bif d then .slice γ.2.1 γ.2.2.1 γ.2.2.2.1 else .slice A0 n0 c0, bif d then .int .i64 γ.2.2.2.2.2.2.1 else .int .i64 cm0, bif d then .int .i64 γ.2.2.2.2.2.2.2 else .int .i64 lo0] 38 (0, 0))) [(fun v => v = (.pointer (some ⟨g, 0, none⟩) : Value)), (fun v => v = (.agg #[.slice A0 n0 c0, .int .i64 cm0, .int .i64 lo0] : Value)), (fun v => v = (.slice (some ad) n c : Value)), (fun v => v = (.int .i64 (j : Int) : Value)), (fun v => v = (.pointer (some (ad.add (j * 8))) : Value)), (fun v => v = (.agg #[.bool y.f0, .string y.f1.f0, .int .i64 y.f1.f1, .int .u16 y.f1.f2, .string y.f1.f3, .int .i64 y.f1.f4, .int .i64 y.f2, .int .i64 y.f3] : Value)), (fun _ => False), (fun _ => False), (fun _ => False), (fun _ => False), (fun _ => False)] (fun γ => [(fun v => v = (.pointer (some ⟨g, 0, none⟩) : Value)), (fun v => v = (.agg #[.slice A0 n0 c0, .int .i64 cm0, .int .i64 lo0] : Value)), (fun v => v = (.slice (some ad) n c : Value)), (fun v => v = (.int .i64 (j : Int) : Value)), (fun v => v = (.pointer (some (ad.add (j * 8))) : Value)), (fun v => v = (.agg #[.bool y.f0, .string y.f1.f0, .int .i64 y.f1.f1, .int .u16 y.f1.f2, .string y.f1.f3, .int .i64 y.f1.f4, .int .i64 y.f2, .int .i64 y.f3] : Value)), (fun v => v = (.tuple #[.agg #[.slice γ.2.1 γ.2.2.1 γ.2.2.2.1, .int .i64 γ.2.2.2.2.2.2.1, .int .i64 γ.2.2.2.2.2.2.2], .bool true] : Value)), (fun v => v = (.tuple #[.agg #[.slice γ.2.1 γ.2.2.1 γ.2.2.2.1, .int .i64 γ.2.2.2.2.2.2.1, .int .i64 γ.2.2.2.2.2.2.2], .bool true] : Value)), (fun v => v = (.agg #[.slice γ.2.1 γ.2.2.1 γ.2.2.2.1, .int .i64 γ.2.2.2.2.2.2.1, .int .i64 γ.2.2.2.2.2.2.2] : Value)), (fun v => v = (.bool true : Value)), (fun v => True)]) rfl (by kernel_rfl) (by kernel_rfl) (fun γ => Reg.imp_cons (fun _ h => h) (Reg.imp_cons (fun _ h => h) (Reg.imp_cons (fun _ h => h) (Reg.imp_cons (fun _ h => h) (Reg.imp_cons (fun _ h => h) (Reg.imp_cons (fun _ h => h) (Reg.imp_cons (fun _ h => h.elim) (Reg.imp_cons (fun _ h => h.elim) (Reg.imp_cons (fun _ h => h.elim) (Reg.imp_cons (fun _ h => h.elim) (Reg.imp_cons (fun _ h => h.elim) (Reg.imp_nil (γ := True))))))))))))) (HWD.out.symm) ?hs ?he
          case hs =>
            intro xs0 xs hx0 hl0_
            clear hx0
            obtain ⟨x0, xs1, rfl, hl1⟩ := Reg.len_succ hl0_
            obtain ⟨x1, xs2, rfl, hl2⟩ := Reg.len_succ hl1
            obtain ⟨x2, xs3, rfl, hl3⟩ := Reg.len_succ hl2
            obtain ⟨x3, xs4, rfl, hl4⟩ := Reg.len_succ hl3
            obtain ⟨x4, xs5, rfl, hl5⟩ := Reg.len_succ hl4
            obtain ⟨x5, xs6, rfl, hl6⟩ := Reg.len_succ hl5
            obtain ⟨x6, xs7, rfl, hl7⟩ := Reg.len_succ hl6
            obtain ⟨x7, xs8, rfl, hl8⟩ := Reg.len_succ hl7
            obtain ⟨x8, xs9, rfl, hl9⟩ := Reg.len_succ hl8
            obtain ⟨x9, xs10, rfl, hl10⟩ := Reg.len_succ hl9
            obtain ⟨x10, xs11, rfl, hl11⟩ := Reg.len_succ hl10
            obtain rfl := List.eq_nil_of_length_eq_zero hl11
            clear hl0_ hl1 hl2 hl3 hl4 hl5 hl6 hl7 hl8 hl9 hl10 hl11
            simp only [Reg.putL, Act.put, List.setIfInBounds_toArray, List.set_cons_succ, List.set_cons_zero]
            refine ⟨fun wr hG hf _ => ?_, ?_⟩
            · skip
              replace hG : wr = wd := hG
              clear hf
              refine .inl ⟨by rfl, ?_⟩
              simp only [Reg.ung]
              subst hG
              go_wp2; exact ⟨_, rfl, rfl, rfl⟩
            refine ⟨fun wr hG hf _ => ?_, ?_⟩
            · skip
              replace hG : wr = wd := hG
              clear hf
              refine .inl ⟨by rfl, ?_⟩
              simp only [Reg.ung]
              subst hG
              go_wp2; exact ⟨_, rfl, rfl, rfl⟩
            refine ⟨fun wr hG hf _ => ?_, ?_⟩
            · skip
              replace hG : wr = wd := hG
              clear hf
              refine .inl ⟨by rfl, ?_⟩
              simp only [Reg.ung]
              subst hG
              go_wp2; exact ⟨_, rfl, rfl, rfl⟩
            refine ⟨fun wr hG hf _ => ?_, ?_⟩
            · skip
              replace hG : wr = wd := hG
              clear hf
              refine .inl ⟨by rfl, ?_⟩
              simp only [Reg.ung]
              subst hG
              go_wp2; exact ⟨_, rfl, rfl, rfl⟩
            refine ⟨fun wr hG hf _ => ?_, ?_⟩
            · skip
              replace hG : wr = wd := hG
              obtain ⟨hq0, hq1, -⟩ := hf
              obtain rfl : x2 = (.slice (some ad) n c : Value) := hq0
              obtain rfl : x3 = (.int .i64 (j : Int) : Value) := hq1
              refine .inl ⟨by rfl, ?_⟩
              simp only [Reg.ung]
              subst hG
              go_wp2; exact ⟨_, rfl, rfl, rfl⟩
            refine ⟨fun wr hG hf _ => ?_, ?_⟩
            · skip
              replace hG : wr = wd := hG
              obtain ⟨hq0, -⟩ := hf
              obtain rfl : x4 = (.pointer (some (ad.add (j * 8))) : Value) := hq0
              refine .inl ⟨by rfl, ?_⟩
              simp only [Reg.ung]
              subst hG
              go_wp2; exact ⟨_, rfl, rfl, rfl⟩
            refine ⟨fun wr hG hf _ => ?_, ?_⟩
            · skip
              replace hG : wr = wd := hG
              obtain ⟨hq0, hq1, hq2, -⟩ := hf
              obtain rfl : x0 = (.pointer (some ⟨g, 0, none⟩) : Value) := hq0
              obtain rfl : x1 = (.agg #[.slice A0 n0 c0, .int .i64 cm0, .int .i64 lo0] : Value) := hq1
              obtain rfl : x5 = (.agg #[.bool y.f0, .string y.f1.f0, .int .i64 y.f1.f1, .int .u16 y.f1.f2, .string y.f1.f3, .int .i64 y.f1.f4, .int .i64 y.f2, .int .i64 y.f3] : Value) := hq2
              refine .inl ⟨by rfl, ?_⟩
              simp only [Reg.ung]
              subst hG
              go_wp2_with ((go_at_call 15; refine HDO.out.mono ?_; rintro e w' ⟨v1, A1, n1, c1, l1, L1, cm1, lo1, rfl, hS1, hk1⟩)); exact ⟨_, rfl, ⟨v1, A1, n1, c1, l1, L1, cm1, lo1⟩, ⟨hS1, hk1⟩, rfl⟩
            refine ⟨fun γ d wr hG hf _ => ?_, ?_⟩
            · skip
              obtain ⟨v1, A1, n1, c1, l1, L1, cm1, lo1⟩ := γ
              replace hG : St W0 wr g v1 (.slice A1 n1 c1) l1 L1 cm1 lo1 (j + 1) ∧ wr.heap[bx]? = some (.cells #[bif d then .slice A1 n1 c1 else .slice A0 n0 c0, bif d then .int .i64 cm1 else .int .i64 cm0, bif d then .int .i64 lo1 else .int .i64 lo0] 38 (0, 0)) := hG
              obtain ⟨hq0, -⟩ := hf
              obtain rfl : x6 = (.tuple #[.agg #[.slice A1 n1 c1, .int .i64 cm1, .int .i64 lo1], .bool true] : Value) := hq0
              refine .inl ⟨by rfl, ?_⟩
              simp only [Reg.ung]
              go_wp2
              exact ⟨_, rfl, by simpa using hG, rfl⟩
            refine ⟨fun γ d wr hG hf _ => ?_, ?_⟩
            · skip
              obtain ⟨v1, A1, n1, c1, l1, L1, cm1, lo1⟩ := γ
              replace hG : St W0 wr g v1 (.slice A1 n1 c1) l1 L1 cm1 lo1 (j + 1) ∧ wr.heap[bx]? = some (.cells #[bif d then .slice A1 n1 c1 else .slice A0 n0 c0, bif d then .int .i64 cm1 else .int .i64 cm0, bif d then .int .i64 lo1 else .int .i64 lo0] 38 (0, 0)) := hG
              obtain ⟨hq0, -⟩ := hf
              obtain rfl : x7 = (.tuple #[.agg #[.slice A1 n1 c1, .int .i64 cm1, .int .i64 lo1], .bool true] : Value) := hq0
              refine .inl ⟨by rfl, ?_⟩
              simp only [Reg.ung]
              go_wp2
              exact ⟨_, rfl, by simpa using hG, rfl⟩
            refine ⟨fun γ d wr hG hf _ => ?_, ?_⟩
            · skip
              obtain ⟨v1, A1, n1, c1, l1, L1, cm1, lo1⟩ := γ
              replace hG : St W0 wr g v1 (.slice A1 n1 c1) l1 L1 cm1 lo1 (j + 1) ∧ wr.heap[bx]? = some (.cells #[bif d then .slice A1 n1 c1 else .slice A0 n0 c0, bif d then .int .i64 cm1 else .int .i64 cm0, bif d then .int .i64 lo1 else .int .i64 lo0] 38 (0, 0)) := hG
              obtain ⟨hq0, -⟩ := hf
              obtain rfl : x7 = (.tuple #[.agg #[.slice A1 n1 c1, .int .i64 cm1, .int .i64 lo1], .bool true] : Value) := hq0
              refine .inl ⟨by rfl, ?_⟩
              simp only [Reg.ung]
              go_wp2
              exact ⟨_, rfl, by simpa using hG, rfl⟩
            refine ⟨fun γ d wr hG hf _ => ?_, ?_⟩
            · skip
              obtain ⟨v1, A1, n1, c1, l1, L1, cm1, lo1⟩ := γ
              replace hG : St W0 wr g v1 (.slice A1 n1 c1) l1 L1 cm1 lo1 (j + 1) ∧ wr.heap[bx]? = some (.cells #[bif d then .slice A1 n1 c1 else .slice A0 n0 c0, bif d then .int .i64 cm1 else .int .i64 cm0, bif d then .int .i64 lo1 else .int .i64 lo0] 38 (0, 0)) := hG
              obtain ⟨hq0, -, -, -, -, -, -, -, -, -, -, -⟩ := hf
              obtain rfl : x8 = (.agg #[.slice A1 n1 c1, .int .i64 cm1, .int .i64 lo1] : Value) := hq0
              refine .inl ⟨by rfl, ?_⟩
              simp only [Reg.ung]
              obtain ⟨hS1, hb1⟩ := hG; have cz0 := (blk_cell hb1 0).trans rfl; have cz1 := (blk_cell hb1 1).trans rfl; have cz2 := (blk_cell hb1 2).trans rfl; have fz0 := blk_frozen hb1 0; have fz1 := blk_frozen hb1 1; have fz2 := blk_frozen hb1 2; have HS1 := Aside0.mk hS1; have HB1 := Aside0.mk hb1; clear hS1 hb1; go_wp2; exact ⟨undef, rfl, ⟨HS1.out.g6 ((((G6.refl _ bx).set 0 _).set 1 _).set 2 _) HB1.out hbx, by simpa using blk_put (blk_put (blk_put HB1.out 0 (.slice A1 n1 c1) rfl) 1 (.int .i64 cm1) rfl) 2 (.int .i64 lo1) rfl⟩, trivial⟩
            exact trivial
          case he =>
            intro xs hl0_ γ wr hG hf
            obtain ⟨x0, xs1, rfl, hl1⟩ := Reg.len_succ hl0_
            obtain ⟨x1, xs2, rfl, hl2⟩ := Reg.len_succ hl1
            obtain ⟨x2, xs3, rfl, hl3⟩ := Reg.len_succ hl2
            obtain ⟨x3, xs4, rfl, hl4⟩ := Reg.len_succ hl3
            obtain ⟨x4, xs5, rfl, hl5⟩ := Reg.len_succ hl4
            obtain ⟨x5, xs6, rfl, hl6⟩ := Reg.len_succ hl5
            obtain ⟨x6, xs7, rfl, hl7⟩ := Reg.len_succ hl6
            obtain ⟨x7, xs8, rfl, hl8⟩ := Reg.len_succ hl7
            obtain ⟨x8, xs9, rfl, hl9⟩ := Reg.len_succ hl8
            obtain ⟨x9, xs10, rfl, hl10⟩ := Reg.len_succ hl9
            obtain ⟨x10, xs11, rfl, hl11⟩ := Reg.len_succ hl10
            obtain rfl := List.eq_nil_of_length_eq_zero hl11
            clear hl0_ hl1 hl2 hl3 hl4 hl5 hl6 hl7 hl8 hl9 hl10 hl11
            obtain ⟨v1, A1, n1, c1, l1, L1, cm1, lo1⟩ := γ
            replace hG : St W0 wr g v1 (.slice A1 n1 c1) l1 L1 cm1 lo1 (j + 1) ∧ wr.heap[bx]? = some (.cells #[bif true then .slice A1 n1 c1 else .slice A0 n0 c0, bif true then .int .i64 cm1 else .int .i64 cm0, bif true then .int .i64 lo1 else .int .i64 lo0] 38 (0, 0)) := hG
            obtain ⟨hq0, hq1, hq2, hq3, hq4, hq5, hq6, hq7, hq8, hq9, hq10, -⟩ := hf
            obtain rfl : x0 = (.pointer (some ⟨g, 0, none⟩) : Value) := hq0
            obtain rfl : x1 = (.agg #[.slice A0 n0 c0, .int .i64 cm0, .int .i64 lo0] : Value) := hq1
            obtain rfl : x2 = (.slice (some ad) n c : Value) := hq2
            obtain rfl : x3 = (.int .i64 (j : Int) : Value) := hq3
            obtain rfl : x4 = (.pointer (some (ad.add (j * 8))) : Value) := hq4
            obtain rfl : x5 = (.agg #[.bool y.f0, .string y.f1.f0, .int .i64 y.f1.f1, .int .u16 y.f1.f2, .string y.f1.f3, .int .i64 y.f1.f4, .int .i64 y.f2, .int .i64 y.f3] : Value) := hq5
            obtain rfl : x6 = (.tuple #[.agg #[.slice A1 n1 c1, .int .i64 cm1, .int .i64 lo1], .bool true] : Value) := hq6
            obtain rfl : x7 = (.tuple #[.agg #[.slice A1 n1 c1, .int .i64 cm1, .int .i64 lo1], .bool true] : Value) := hq7
            obtain rfl : x8 = (.agg #[.slice A1 n1 c1, .int .i64 cm1, .int .i64 lo1] : Value) := hq8
            obtain rfl : x9 = (.bool true : Value) := hq9
            replace hq10 : True := hq10
            simp only [Reg.putL, Act.put, List.setIfInBounds_toArray, List.set_cons_succ, List.set_cons_zero]
            simp only [cond_true] at hG; obtain ⟨hS1, hb1⟩ := hG
            have HS1 := Aside0.mk hS1
            have HB1 := Aside0.mk hb1
            clear hS1 hb1 HDO f0 f1 f2 f3 f4 f5 f6 f7 cz cy cx
            go_wp2_with (fail)
            go_roundg k1
            case measure => omega
            case rel => exact ⟨j + 1, v1, A1, n1, c1, l1, L1, cm1, lo1, by first | rfl | simp | (simp; unfold wrap64; omega), ⟨by have := HJ.out; omega⟩, HS1, HB1⟩
      · have hlt1 : decide ((j : Int) < (n : Int)) = false := decide_eq_false (by omega)
        have hlt2 : decide (j < n) = false := decide_eq_false hlt
        have hj120 : j ≤ 120 := by omega
        clear HJ hj0 hjk hlt
        go_wp2_with (fail)
        obtain ⟨wL, rfl⟩ : ∃ wL, wL = wr := ⟨_, rfl⟩
        have hlL : l.length ≤ 32 := by rw [HS.out.inv.perm.length_eq]; exact HS.out.inv.len
        refine (list_any W0.heap.size g v l cm0 lo0 wL HS.out.q (by omega)).mono ?_
        rintro e w5 ⟨v2, l', rfl, hp, hso, hr2, hb5⟩
        obtain rfl := HS.out.inv.sorted hp hso
        obtain ⟨A2, c2, h2, hc2, hC2⟩ := Kd.R_reads hr2
        obtain ⟨m, hm⟩ : ∃ m, m = l'.length := ⟨_, rfl⟩
        rw [← hm] at h2 hc2
        subst h2
        have HR2 := Aside0.mk hr2
        have HM := Aside0.mk hm
        have hm32 : m ≤ 32 := by rw [hm]; exact HS.out.inv.len
        have HS5 := Aside0.mk (HS.out.below hb5)
        have HBW := Aside0.mk hb5
        have HLT := Aside0.mk (show g < wL.heap.size ∧ ∀ b, v.ownBlock = some b → b < wL.heap.size from ⟨HS.out.q.lt, fun b hb => (HS.out.q.row.bound hb).2.2.1⟩)
        clear hp hso hr2 hC2 hm hb5 HS HBK hlL
        go_wp2_with (fail)
        go_loopg [7] (m + 1) (fun kq v7 w6 => ∃ (k : Nat), v7 = .int .i64 ((k : Int) + 1) ∧ Aside0 (k ≤ m ∧ k + kq = m + 1) ∧ Aside0 (Below w5.heap.size w5 w6))
        case atStart => exact ⟨0, by simp, ⟨by omega⟩, ⟨Below.refl _ _⟩⟩
        case round =>
          obtain ⟨k, rfl, HK, HB6⟩ := hrel
          obtain ⟨hk0, hkk⟩ := HK.out
          by_cases hlt : k + 1 < m
          · cases gk with
            | zero => exact absurd hkk (by omega)
            | succ k1 =>
              have hlt1 : decide ((k : Int) + 1 < (m : Int)) = true := decide_eq_true (by omega)
              have hlt2 : decide (k + 1 < m) = true := decide_eq_true hlt
              have hw0 : wrap64 ((k : Int) + 1 - 1) = (k : Int) := by unfold wrap64; omega
              obtain ⟨wd, hwd⟩ : ∃ wd, wd = wr.drew := ⟨_, rfl⟩
              have HWD := Aside0.mk hwd
              have hBd : Below w5.heap.size w5 wd := by rw [hwd]; exact HB6.out.drew
              have HBD := Aside0.mk hBd
              obtain ⟨A2', c2', h2', hc2', hC2'⟩ := Kd.R_reads (Kd.R_below HR2.out hBd)
              obtain ⟨rfl, hmm, rfl⟩ : A2 = A2' ∧ m = l'.length ∧ c2 = c2' := by simpa using h2'
              obtain ⟨ad, hA, _, _, _, _, _, f5, f6⟩ := at_T47 hC2' (k : Int) (by omega) (by omega)
              obtain ⟨ad', hA', _, _, _, _, _, g5, g6⟩ := at_T47 hC2' ((k + 1 : Nat) : Int) (by omega) (by omega)
              subst hA
              obtain rfl : ad = ad' := by injection hA'
              rw [Int.toNat_natCast] at f5 f6 g5 g6
              have hlt3 : k < l'.length := by omega
              have hlt4 : k + 1 < l'.length := by omega
              rw [rd47_get l' k hlt3] at f5 f6
              rw [rd47_get l' (k + 1) hlt4] at g5 g6
              have hord : ltQ l'[k] l'[k + 1] = true := List.pairwise_iff_getElem.1 HS5.out.inv.sort k (k + 1) hlt3 hlt4 (by omega)
              obtain ⟨x, hx⟩ : ∃ x, x = l'[k] := ⟨_, rfl⟩
              obtain ⟨y, hy⟩ : ∃ y, y = l'[k + 1] := ⟨_, rfl⟩
              rw [← hx] at f5 f6 hord
              rw [← hy] at g5 g6 hord
              rw [ltQ_iff] at hord
              have hc1 : decide (x.f1 > y.f1) = false := decide_eq_false (by omega)
              have hc1' : decide (y.f1 < x.f1) = false := decide_eq_false (by omega)
              clear hx hy hA' h2' hC2' hwd hBd hmm hlt3 hlt4
              go_wp2_with (fail)
              by_cases hxy : x.f1 = y.f1
              · have hcq : (x.f1 == y.f1) = true := beq_iff_eq.2 hxy
                have hcq2 : decide (x.f1 = y.f1) = true := decide_eq_true hxy
                have hcl : decide (x.f2 ≤ y.f2) = false := decide_eq_false (by omega)
                refine Reg.region_list hmix [some 40, some 41, some 42, some 43, some 44, some 45, some 46, some 47, some 48, some 49, some 50, some 51, some 52, some 53, some 54, some 55, some 56, some 57, some 58, some 59, some 60, some 61, some 62, some 63, some 64, some 65, some 66, some 67, some 68, some 69, some 70, some 71, some 72, some 73, some 74, some 75, some 76, some 77, some 78, some 79] [[], [], [1], [0, 2], [3], [4], [], [], [6, 7], [8], [9], [5, 10], [11], [12], [12], [14, 12], [13, 15, 12], [16, 12], [17, 12], [12], [12], [19, 20, 12], [21, 12], [22, 12], [18, 23, 12], [24, 12, 12], [25], [25], [27, 25], [26, 28, 25], [29, 25], [30, 25], [25], [25], [32, 33, 25], [34, 25], [35, 25], [31, 36, 25], [25, 37, 12], [12, 38]] (fun w => Aside0 (w = wd)) (fun w w' => Aside0 (w' = w)) [(fun v w => v = (.slice (some ad) m c2 : Value)), (fun v w => v = (.int .i64 ((k : Int) + 1) : Value)), (fun v w => v = (.int .i64 (k : Int) : Value)), (fun v w => v = (.pointer (some (ad.add (k * 7))) : Value)), (fun v w => v = (.pointer (some ⟨(ad.add (k * 7)).block, (ad.add (k * 7)).off + 5, none⟩) : Value)), (fun v w => v = (.int .i64 x.f1 : Value)), (fun v w => v = (.slice (some ad) m c2 : Value)), (fun v w => v = (.int .i64 ((k : Int) + 1) : Value)), (fun v w => v = (.pointer (some (ad.add ((k + 1) * 7))) : Value)), (fun v w => v = (.pointer (some ⟨(ad.add ((k + 1) * 7)).block, (ad.add ((k + 1) * 7)).off + 5, none⟩) : Value)), (fun v w => v = (.int .i64 y.f1 : Value)), (fun v w => v = (.bool false : Value)), (fun v w => v = (.bool false : Value)), (fun v w => v = (.slice (some ad) m c2 : Value)), (fun v w => v = (.int .i64 ((k : Int) + 1) : Value)), (fun v w => v = (.int .i64 (k : Int) : Value)), (fun v w => v = (.pointer (some (ad.add (k * 7))) : Value)), (fun v w => v = (.pointer (some ⟨(ad.add (k * 7)).block, (ad.add (k * 7)).off + 5, none⟩) : Value)), (fun v w => v = (.int .i64 x.f1 : Value)), (fun v w => v = (.slice (some ad) m c2 : Value)), (fun v w => v = (.int .i64 ((k : Int) + 1) : Value)), (fun v w => v = (.pointer (some (ad.add ((k + 1) * 7))) : Value)), (fun v w => v = (.pointer (some ⟨(ad.add ((k + 1) * 7)).block, (ad.add ((k + 1) * 7)).off + 5, none⟩) : Value)), (fun v w => v = (.int .i64 y.f1 : Value)), (fun v w => v = (.bool true : Value)), (fun v w => v = (.bool true : Value)), (fun v w => v = (.slice (some ad) m c2 : Value)), (fun v w => v = (.int .i64 ((k : Int) + 1) : Value)), (fun v w => v = (.int .i64 (k : Int) : Value)), (fun v w => v = (.pointer (some (ad.add (k * 7))) : Value)), (fun v w => v = (.pointer (some ⟨(ad.add (k * 7)).block, (ad.add (k * 7)).off + 6, none⟩) : Value)), (fun v w => v = (.int .i64 x.f2 : Value)), (fun v w => v = (.slice (some ad) m c2 : Value)), (fun v w => v = (.int .i64 ((k : Int) + 1) : Value)), (fun v w => v = (.pointer (some (ad.add ((k + 1) * 7))) : Value)), (fun v w => v = (.pointer (some ⟨(ad.add ((k + 1) * 7)).block, (ad.add ((k + 1) * 7)).off + 6, none⟩) : Value)), (fun v w => v = (.int .i64 y.f2 : Value)), (fun v w => v = (.bool false : Value)), (fun v w => v = (.bool false : Value)), (fun v w => v = (.bool false : Value))] rfl (by kernel_rfl) (by kernel_rfl) (fun _ => ⟨rfl⟩) (fun _ _ hr => Reg.mono_cons (fun _ h => h) (Reg.mono_cons (fun _ h => h) (Reg.mono_cons (fun _ h => h) (Reg.mono_cons (fun _ h => h) (Reg.mono_cons (fun _ h => h) (Reg.mono_cons (fun _ h => h) (Reg.mono_cons (fun _ h => h) (Reg.mono_cons (fun _ h => h) (Reg.mono_cons (fun _ h => h) (Reg.mono_cons (fun _ h => h) (Reg.mono_cons (fun _ h => h) (Reg.mono_cons (fun _ h => h) (Reg.mono_cons (fun _ h => h) (Reg.mono_cons (fun _ h => h) (Reg.mono_cons (fun _ h => h) (Reg.mono_cons (fun _ h => h) (Reg.mono_cons (fun _ h => h) (Reg.mono_cons (fun _ h => h) (Reg.mono_cons (fun _ h => h) (Reg.mono_cons (fun _ h => h) (Reg.mono_cons (fun _ h => h) (Reg.mono_cons (fun _ h => h) (Reg.mono_cons (fun _ h => h) (Reg.mono_cons (fun _ h => h) (Reg.mono_cons (fun _ h => h) (Reg.mono_cons (fun _ h => h) (Reg.mono_cons (fun _ h => h) (Reg.mono_cons (fun _ h => h) (Reg.mono_cons (fun _ h => h) (Reg.mono_cons (fun _ h => h) (Reg.mono_cons (fun _ h => h) (Reg.mono_cons (fun _ h => h) (Reg.mono_cons (fun _ h => h) (Reg.mono_cons (fun _ h => h) (Reg.mono_cons (fun _ h => h) (Reg.mono_cons (fun _ h => h) (Reg.mono_cons (fun _ h => h) (Reg.mono_cons (fun _ h => h) (Reg.mono_cons (fun _ h => h) (Reg.mono_cons (fun _ h => h) (Reg.mono_nil))))))))))))))))))))))))))))))))))))))))) (⟨HWD.out.symm⟩) ?hs ?he
                case hs =>
                  intro xs0 xs hx0 hl0_ wr hG
                  clear hx0
                  obtain ⟨x0, xs1, rfl, hl1⟩ := Reg.len_succ hl0_
                  obtain ⟨x1, xs2, rfl, hl2⟩ := Reg.len_succ hl1
                  obtain ⟨x2, xs3, rfl, hl3⟩ := Reg.len_succ hl2
                  obtain ⟨x3, xs4, rfl, hl4⟩ := Reg.len_succ hl3
                  obtain ⟨x4, xs5, rfl, hl5⟩ := Reg.len_succ hl4
                  obtain ⟨x5, xs6, rfl, hl6⟩ := Reg.len_succ hl5
                  obtain ⟨x6, xs7, rfl, hl7⟩ := Reg.len_succ hl6
                  obtain ⟨x7, xs8, rfl, hl8⟩ := Reg.len_succ hl7
                  obtain ⟨x8, xs9, rfl, hl9⟩ := Reg.len_succ hl8
                  obtain ⟨x9, xs10, rfl, hl10⟩ := Reg.len_succ hl9
                  obtain ⟨x10, xs11, rfl, hl11⟩ := Reg.len_succ hl10
                  obtain ⟨x11, xs12, rfl, hl12⟩ := Reg.len_succ hl11
                  obtain ⟨x12, xs13, rfl, hl13⟩ := Reg.len_succ hl12
                  obtain ⟨x13, xs14, rfl, hl14⟩ := Reg.len_succ hl13
                  obtain ⟨x14, xs15, rfl, hl15⟩ := Reg.len_succ hl14
                  obtain ⟨x15, xs16, rfl, hl16⟩ := Reg.len_succ hl15
                  obtain ⟨x16, xs17, rfl, hl17⟩ := Reg.len_succ hl16
                  obtain ⟨x17, xs18, rfl, hl18⟩ := Reg.len_succ hl17
                  obtain ⟨x18, xs19, rfl, hl19⟩ := Reg.len_succ hl18
                  obtain ⟨x19, xs20, rfl, hl20⟩ := Reg.len_succ hl19
                  obtain ⟨x20, xs21, rfl, hl21⟩ := Reg.len_succ hl20
                  obtain ⟨x21, xs22, rfl, hl22⟩ := Reg.len_succ hl21
                  obtain ⟨x22, xs23, rfl, hl23⟩ := Reg.len_succ hl22
                  obtain ⟨x23, xs24, rfl, hl24⟩ := Reg.len_succ hl23
                  obtain ⟨x24, xs25, rfl, hl25⟩ := Reg.len_succ hl24
                  obtain ⟨x25, xs26, rfl, hl26⟩ := Reg.len_succ hl25
                  obtain ⟨x26, xs27, rfl, hl27⟩ := Reg.len_succ hl26
                  obtain ⟨x27, xs28, rfl, hl28⟩ := Reg.len_succ hl27
                  obtain ⟨x28, xs29, rfl, hl29⟩ := Reg.len_succ hl28
                  obtain ⟨x29, xs30, rfl, hl30⟩ := Reg.len_succ hl29
                  obtain ⟨x30, xs31, rfl, hl31⟩ := Reg.len_succ hl30
                  obtain ⟨x31, xs32, rfl, hl32⟩ := Reg.len_succ hl31
                  obtain ⟨x32, xs33, rfl, hl33⟩ := Reg.len_succ hl32
                  obtain ⟨x33, xs34, rfl, hl34⟩ := Reg.len_succ hl33
                  obtain ⟨x34, xs35, rfl, hl35⟩ := Reg.len_succ hl34
                  obtain ⟨x35, xs36, rfl, hl36⟩ := Reg.len_succ hl35
                  obtain ⟨x36, xs37, rfl, hl37⟩ := Reg.len_succ hl36
                  obtain ⟨x37, xs38, rfl, hl38⟩ := Reg.len_succ hl37
                  obtain ⟨x38, xs39, rfl, hl39⟩ := Reg.len_succ hl38
                  obtain ⟨x39, xs40, rfl, hl40⟩ := Reg.len_succ hl39
                  obtain rfl := List.eq_nil_of_length_eq_zero hl40
                  clear hl0_ hl1 hl2 hl3 hl4 hl5 hl6 hl7 hl8 hl9 hl10 hl11 hl12 hl13 hl14 hl15 hl16 hl17 hl18 hl19 hl20 hl21 hl22 hl23 hl24 hl25 hl26 hl27 hl28 hl29 hl30 hl31 hl32 hl33 hl34 hl35 hl36 hl37 hl38 hl39 hl40
                  simp only [Reg.putL, Act.put, List.setIfInBounds_toArray, List.set_cons_succ, List.set_cons_zero]
                  obtain rfl := hG.out
                  refine ⟨fun hf _ => ?_, ?_⟩
                  · clear hf
                    refine .inl ⟨by rfl, ?_⟩
                    simp only [Reg.ung]
                    go_wp2
                    first | exact ⟨_, rfl, hG, ⟨rfl⟩, rfl⟩ | exact ⟨rfl, hG, ⟨rfl⟩, rfl⟩ | exact ⟨rfl, hG, ⟨rfl⟩⟩ | exact ⟨rfl, ⟨rfl⟩⟩
                  refine ⟨fun hf _ => ?_, ?_⟩
                  · clear hf
                    refine .inl ⟨by rfl, ?_⟩
                    simp only [Reg.ung]
                    go_wp2
                    first | exact ⟨_, rfl, hG, ⟨rfl⟩, rfl⟩ | exact ⟨rfl, hG, ⟨rfl⟩, rfl⟩ | exact ⟨rfl, hG, ⟨rfl⟩⟩ | exact ⟨rfl, ⟨rfl⟩⟩
                  refine ⟨fun hf _ => ?_, ?_⟩
                  · obtain ⟨hq0, -⟩ := hf
                    obtain rfl : x1 = _ := hq0
                    refine .inl ⟨by rfl, ?_⟩
                    simp only [Reg.ung]
                    go_wp2
                    first | exact ⟨_, rfl, hG, ⟨rfl⟩, rfl⟩ | exact ⟨rfl, hG, ⟨rfl⟩, rfl⟩ | exact ⟨rfl, hG, ⟨rfl⟩⟩ | exact ⟨rfl, ⟨rfl⟩⟩
                  refine ⟨fun hf _ => ?_, ?_⟩
                  · obtain ⟨hq0, hq1, -⟩ := hf
                    obtain rfl : x0 = _ := hq0
                    obtain rfl : x2 = _ := hq1
                    refine .inl ⟨by rfl, ?_⟩
                    simp only [Reg.ung]
                    go_wp2
                    first | exact ⟨_, rfl, hG, ⟨rfl⟩, rfl⟩ | exact ⟨rfl, hG, ⟨rfl⟩, rfl⟩ | exact ⟨rfl, hG, ⟨rfl⟩⟩ | exact ⟨rfl, ⟨rfl⟩⟩
                  refine ⟨fun hf _ => ?_, ?_⟩
                  · obtain ⟨hq0, -⟩ := hf
                    obtain rfl : x3 = _ := hq0
                    refine .inl ⟨by rfl, ?_⟩
                    simp only [Reg.ung]
                    go_wp2
                    first | exact ⟨_, rfl, hG, ⟨rfl⟩, rfl⟩ | exact ⟨rfl, hG, ⟨rfl⟩, rfl⟩ | exact ⟨rfl, hG, ⟨rfl⟩⟩ | exact ⟨rfl, ⟨rfl⟩⟩
                  refine ⟨fun hf _ => ?_, ?_⟩
                  · obtain ⟨hq0, -⟩ := hf
                    obtain rfl : x4 = _ := hq0
                    refine .inl ⟨by rfl, ?_⟩
                    simp only [Reg.ung]
                    go_wp2
                    first | exact ⟨_, rfl, hG, ⟨rfl⟩, rfl⟩ | exact ⟨rfl, hG, ⟨rfl⟩, rfl⟩ | exact ⟨rfl, hG, ⟨rfl⟩⟩ | exact ⟨rfl, ⟨rfl⟩⟩
                  refine ⟨fun hf _ => ?_, ?_⟩
                  · clear hf
                    refine .inl ⟨by rfl, ?_⟩
                    simp only [Reg.ung]
                    go_wp2
                    first | exact ⟨_, rfl, hG, ⟨rfl⟩, rfl⟩ | exact ⟨rfl, hG, ⟨rfl⟩, rfl⟩ | exact ⟨rfl, hG, ⟨rfl⟩⟩ | exact ⟨rfl, ⟨rfl⟩⟩
                  refine ⟨fun hf _ => ?_, ?_⟩
                  · clear hf
                    refine .inl ⟨by rfl, ?_⟩
                    simp only [Reg.ung]
                    go_wp2
                    first | exact ⟨_, rfl, hG, ⟨rfl⟩, rfl⟩ | exact ⟨rfl, hG, ⟨rfl⟩, rfl⟩ | exact ⟨rfl, hG, ⟨rfl⟩⟩ | exact ⟨rfl, ⟨rfl⟩⟩
                  refine ⟨fun hf _ => ?_, ?_⟩
                  · obtain ⟨hq0, hq1, -⟩ := hf
                    obtain rfl : x6 = _ := hq0
                    obtain rfl : x7 = _ := hq1
                    refine .inl ⟨by rfl, ?_⟩
                    simp only [Reg.ung]
                    go_wp2
                    first | exact ⟨_, rfl, hG, ⟨rfl⟩, rfl⟩ | exact ⟨rfl, hG, ⟨rfl⟩, rfl⟩ | exact ⟨rfl, hG, ⟨rfl⟩⟩ | exact ⟨rfl, ⟨rfl⟩⟩
                  refine ⟨fun hf _ => ?_, ?_⟩
                  · obtain ⟨hq0, -⟩ := hf
                    obtain rfl : x8 = _ := hq0
                    refine .inl ⟨by rfl, ?_⟩
                    simp only [Reg.ung]
                    go_wp2
                    first | exact ⟨_, rfl, hG, ⟨rfl⟩, rfl⟩ | exact ⟨rfl, hG, ⟨rfl⟩, rfl⟩ | exact ⟨rfl, hG, ⟨rfl⟩⟩ | exact ⟨rfl, ⟨rfl⟩⟩
                  refine ⟨fun hf _ => ?_, ?_⟩
                  · obtain ⟨hq0, -⟩ := hf
                    obtain rfl : x9 = _ := hq0
                    refine .inl ⟨by rfl, ?_⟩
                    simp only [Reg.ung]
                    go_wp2
                    first | exact ⟨_, rfl, hG, ⟨rfl⟩, rfl⟩ | exact ⟨rfl, hG, ⟨rfl⟩, rfl⟩ | exact ⟨rfl, hG, ⟨rfl⟩⟩ | exact ⟨rfl, ⟨rfl⟩⟩
                  refine ⟨fun hf _ => ?_, ?_⟩
                  · obtain ⟨hq0, hq1, -⟩ := hf
                    obtain rfl : x5 = _ := hq0
                    obtain rfl : x10 = _ := hq1
                    refine .inl ⟨by rfl, ?_⟩
                    simp only [Reg.ung]
                    go_wp2
                    first | exact ⟨_, rfl, hG, ⟨rfl⟩, rfl⟩ | exact ⟨rfl, hG, ⟨rfl⟩, rfl⟩ | exact ⟨rfl, hG, ⟨rfl⟩⟩ | exact ⟨rfl, ⟨rfl⟩⟩
                  refine ⟨fun hf _ => ?_, ?_⟩
                  · obtain ⟨hq0, -⟩ := hf
                    obtain rfl : x11 = _ := hq0
                    refine .inl ⟨by rfl, ?_⟩
                    simp only [Reg.ung]
                    go_wp2
                    first | exact ⟨_, rfl, hG, ⟨rfl⟩, rfl⟩ | exact ⟨rfl, hG, ⟨rfl⟩, rfl⟩ | exact ⟨rfl, hG, ⟨rfl⟩⟩ | exact ⟨rfl, ⟨rfl⟩⟩
                  refine ⟨fun hf _ => ?_, ?_⟩
                  · obtain ⟨hq0, -⟩ := hf
                    obtain rfl : x12 = _ := hq0
                    refine .inl ⟨by rfl, ?_⟩
                    simp only [Reg.ung]
                    go_wp2
                    first | exact ⟨_, rfl, hG, ⟨rfl⟩, rfl⟩ | exact ⟨rfl, hG, ⟨rfl⟩, rfl⟩ | exact ⟨rfl, hG, ⟨rfl⟩⟩ | exact ⟨rfl, ⟨rfl⟩⟩
                  refine ⟨fun hf _ => ?_, ?_⟩
                  · obtain ⟨hq0, -⟩ := hf
                    obtain rfl : x12 = _ := hq0
                    refine .inl ⟨by rfl, ?_⟩
                    simp only [Reg.ung]
                    go_wp2
                    first | exact ⟨_, rfl, hG, ⟨rfl⟩, rfl⟩ | exact ⟨rfl, hG, ⟨rfl⟩, rfl⟩ | exact ⟨rfl, hG, ⟨rfl⟩⟩ | exact ⟨rfl, ⟨rfl⟩⟩
                  refine ⟨fun hf _ => ?_, ?_⟩
                  · obtain ⟨hq0, hq1, -⟩ := hf
                    obtain rfl : x14 = _ := hq0
                    obtain rfl : x12 = _ := hq1
                    refine .inl ⟨by rfl, ?_⟩
                    simp only [Reg.ung]
                    go_wp2
                    first | exact ⟨_, rfl, hG, ⟨rfl⟩, rfl⟩ | exact ⟨rfl, hG, ⟨rfl⟩, rfl⟩ | exact ⟨rfl, hG, ⟨rfl⟩⟩ | exact ⟨rfl, ⟨rfl⟩⟩
                  refine ⟨fun hf _ => ?_, ?_⟩
                  · obtain ⟨hq0, hq1, hq2, -⟩ := hf
                    obtain rfl : x13 = _ := hq0
                    obtain rfl : x15 = _ := hq1
                    obtain rfl : x12 = _ := hq2
                    refine .inl ⟨by rfl, ?_⟩
                    simp only [Reg.ung]
                    go_wp2
                    first | exact ⟨_, rfl, hG, ⟨rfl⟩, rfl⟩ | exact ⟨rfl, hG, ⟨rfl⟩, rfl⟩ | exact ⟨rfl, hG, ⟨rfl⟩⟩ | exact ⟨rfl, ⟨rfl⟩⟩
                  refine ⟨fun hf _ => ?_, ?_⟩
                  · obtain ⟨hq0, hq1, -⟩ := hf
                    obtain rfl : x16 = _ := hq0
                    obtain rfl : x12 = _ := hq1
                    refine .inl ⟨by rfl, ?_⟩
                    simp only [Reg.ung]
                    go_wp2
                    first | exact ⟨_, rfl, hG, ⟨rfl⟩, rfl⟩ | exact ⟨rfl, hG, ⟨rfl⟩, rfl⟩ | exact ⟨rfl, hG, ⟨rfl⟩⟩ | exact ⟨rfl, ⟨rfl⟩⟩
                  refine ⟨fun hf _ => ?_, ?_⟩
                  · obtain ⟨hq0, hq1, -⟩ := hf
                    obtain rfl : x17 = _ := hq0
                    obtain rfl : x12 = _ := hq1
                    refine .inl ⟨by rfl, ?_⟩
                    simp only [Reg.ung]
                    go_wp2
                    first | exact ⟨_, rfl, hG, ⟨rfl⟩, rfl⟩ | exact ⟨rfl, hG, ⟨rfl⟩, rfl⟩ | exact ⟨rfl, hG, ⟨rfl⟩⟩ | exact ⟨rfl, ⟨rfl⟩⟩
                  refine ⟨fun hf _ => ?_, ?_⟩
                  · obtain ⟨hq0, -⟩ := hf
                    obtain rfl : x12 = _ := hq0
                    refine .inl ⟨by rfl, ?_⟩
                    simp only [Reg.ung]
                    go_wp2
                    first | exact ⟨_, rfl, hG, ⟨rfl⟩, rfl⟩ | exact ⟨rfl, hG, ⟨rfl⟩, rfl⟩ | exact ⟨rfl, hG, ⟨rfl⟩⟩ | exact ⟨rfl, ⟨rfl⟩⟩
                  refine ⟨fun hf _ => ?_, ?_⟩
                  · obtain ⟨hq0, -⟩ := hf
                    obtain rfl : x12 = _ := hq0
                    refine .inl ⟨by rfl, ?_⟩
                    simp only [Reg.ung]
                    go_wp2
                    first | exact ⟨_, rfl, hG, ⟨rfl⟩, rfl⟩ | exact ⟨rfl, hG, ⟨rfl⟩, rfl⟩ | exact ⟨rfl, hG, ⟨rfl⟩⟩ | exact ⟨rfl, ⟨rfl⟩⟩
                  refine ⟨fun hf _ => ?_, ?_⟩
                  · obtain ⟨hq0, hq1, hq2, -⟩ := hf
                    obtain rfl : x19 = _ := hq0
                    obtain rfl : x20 = _ := hq1
                    obtain rfl : x12 = _ := hq2
                    refine .inl ⟨by rfl, ?_⟩
                    simp only [Reg.ung]
                    go_wp2
                    first | exact ⟨_, rfl, hG, ⟨rfl⟩, rfl⟩ | exact ⟨rfl, hG, ⟨rfl⟩, rfl⟩ | exact ⟨rfl, hG, ⟨rfl⟩⟩ | exact ⟨rfl, ⟨rfl⟩⟩
                  refine ⟨fun hf _ => ?_, ?_⟩
                  · obtain ⟨hq0, hq1, -⟩ := hf
                    obtain rfl : x21 = _ := hq0
                    obtain rfl : x12 = _ := hq1
                    refine .inl ⟨by rfl, ?_⟩
                    simp only [Reg.ung]
                    go_wp2
                    first | exact ⟨_, rfl, hG, ⟨rfl⟩, rfl⟩ | exact ⟨rfl, hG, ⟨rfl⟩, rfl⟩ | exact ⟨rfl, hG, ⟨rfl⟩⟩ | exact ⟨rfl, ⟨rfl⟩⟩
                  refine ⟨fun hf _ => ?_, ?_⟩
                  · obtain ⟨hq0, hq1, -⟩ := hf
                    obtain rfl : x22 = _ := hq0
                    obtain rfl : x12 = _ := hq1
                    refine .inl ⟨by rfl, ?_⟩
                    simp only [Reg.ung]
                    go_wp2
                    first | exact ⟨_, rfl, hG, ⟨rfl⟩, rfl⟩ | exact ⟨rfl, hG, ⟨rfl⟩, rfl⟩ | exact ⟨rfl, hG, ⟨rfl⟩⟩ | exact ⟨rfl, ⟨rfl⟩⟩
                  refine ⟨fun hf _ => ?_, ?_⟩
                  · obtain ⟨hq0, hq1, hq2, -⟩ := hf
                    obtain rfl : x18 = _ := hq0
                    obtain rfl : x23 = _ := hq1
                    obtain rfl : x12 = _ := hq2
                    refine .inl ⟨by rfl, ?_⟩
                    simp only [Reg.ung]
                    go_wp2
                    first | exact ⟨_, rfl, hG, ⟨rfl⟩, rfl⟩ | exact ⟨rfl, hG, ⟨rfl⟩, rfl⟩ | exact ⟨rfl, hG, ⟨rfl⟩⟩ | exact ⟨rfl, ⟨rfl⟩⟩
                  refine ⟨fun hf _ => ?_, ?_⟩
                  · obtain ⟨hq0, hq1, -, -⟩ := hf
                    obtain rfl : x24 = _ := hq0
                    obtain rfl : x12 = _ := hq1
                    refine .inl ⟨by rfl, ?_⟩
                    simp only [Reg.ung]
                    go_wp2
                    first | exact ⟨_, rfl, hG, ⟨rfl⟩, rfl⟩ | exact ⟨rfl, hG, ⟨rfl⟩, rfl⟩ | exact ⟨rfl, hG, ⟨rfl⟩⟩ | exact ⟨rfl, ⟨rfl⟩⟩
                  refine ⟨fun hf _ => ?_, ?_⟩
                  · obtain ⟨hq0, -⟩ := hf
                    obtain rfl : x25 = _ := hq0
                    refine .inl ⟨by rfl, ?_⟩
                    simp only [Reg.ung]
                    go_wp2
                    first | exact ⟨_, rfl, hG, ⟨rfl⟩, rfl⟩ | exact ⟨rfl, hG, ⟨rfl⟩, rfl⟩ | exact ⟨rfl, hG, ⟨rfl⟩⟩ | exact ⟨rfl, ⟨rfl⟩⟩
                  refine ⟨fun hf _ => ?_, ?_⟩
                  · obtain ⟨hq0, -⟩ := hf
                    obtain rfl : x25 = _ := hq0
                    refine .inl ⟨by rfl, ?_⟩
                    simp only [Reg.ung]
                    go_wp2
                    first | exact ⟨_, rfl, hG, ⟨rfl⟩, rfl⟩ | exact ⟨rfl, hG, ⟨rfl⟩, rfl⟩ | exact ⟨rfl, hG, ⟨rfl⟩⟩ | exact ⟨rfl, ⟨rfl⟩⟩
                  refine ⟨fun hf _ => ?_, ?_⟩
                  · obtain ⟨hq0, hq1, -⟩ := hf
                    obtain rfl : x27 = _ := hq0
                    obtain rfl : x25 = _ := hq1
                    refine .inl ⟨by rfl, ?_⟩
                    simp only [Reg.ung]
                    go_wp2
                    first | exact ⟨_, rfl, hG, ⟨rfl⟩, rfl⟩ | exact ⟨rfl, hG, ⟨rfl⟩, rfl⟩ | exact ⟨rfl, hG, ⟨rfl⟩⟩ | exact ⟨rfl, ⟨rfl⟩⟩
                  refine ⟨fun hf _ => ?_, ?_⟩
                  · obtain ⟨hq0, hq1, hq2, -⟩ := hf
                    obtain rfl : x26 = _ := hq0
                    obtain rfl : x28 = _ := hq1
                    obtain rfl : x25 = _ := hq2
                    refine .inl ⟨by rfl, ?_⟩
                    simp only [Reg.ung]
                    go_wp2
                    first | exact ⟨_, rfl, hG, ⟨rfl⟩, rfl⟩ | exact ⟨rfl, hG, ⟨rfl⟩, rfl⟩ | exact ⟨rfl, hG, ⟨rfl⟩⟩ | exact ⟨rfl, ⟨rfl⟩⟩
                  refine ⟨fun hf _ => ?_, ?_⟩
                  · obtain ⟨hq0, hq1, -⟩ := hf
                    obtain rfl : x29 = _ := hq0
                    obtain rfl : x25 = _ := hq1
                    refine .inl ⟨by rfl, ?_⟩
                    simp only [Reg.ung]
                    go_wp2
                    first | exact ⟨_, rfl, hG, ⟨rfl⟩, rfl⟩ | exact ⟨rfl, hG, ⟨rfl⟩, rfl⟩ | exact ⟨rfl, hG, ⟨rfl⟩⟩ | exact ⟨rfl, ⟨rfl⟩⟩
                  refine ⟨fun hf _ => ?_, ?_⟩
                  · obtain ⟨hq0, hq1, -⟩ := hf
                    obtain rfl : x30 = _ := hq0
                    obtain rfl : x25 = _ := hq1
                    refine .inl ⟨by rfl, ?_⟩
                    simp only [Reg.ung]
                    go_wp2
                    first | exact ⟨_, rfl, hG, ⟨rfl⟩, rfl⟩ | exact ⟨rfl, hG, ⟨rfl⟩, rfl⟩ | exact ⟨rfl, hG, ⟨rfl⟩⟩ | exact ⟨rfl, ⟨rfl⟩⟩
                  refine ⟨fun hf _ => ?_, ?_⟩
                  · obtain ⟨hq0, -⟩ := hf
                    obtain rfl : x25 = _ := hq0
                    refine .inl ⟨by rfl, ?_⟩
                    simp only [Reg.ung]
                    go_wp2
                    first | exact ⟨_, rfl, hG, ⟨rfl⟩, rfl⟩ | exact ⟨rfl, hG, ⟨rfl⟩, rfl⟩ | exact ⟨rfl, hG, ⟨rfl⟩⟩ | exact ⟨rfl, ⟨rfl⟩⟩
                  refine ⟨fun hf _ => ?_, ?_⟩
                  · obtain ⟨hq0, -⟩ := hf
                    obtain rfl : x25 = _ := hq0
                    refine .inl ⟨by rfl, ?_⟩
                    simp only [Reg.ung]
                    go_wp2
                    first | exact ⟨_, rfl, hG, ⟨rfl⟩, rfl⟩ | exact ⟨rfl, hG, ⟨rfl⟩, rfl⟩ | exact ⟨rfl, hG, ⟨rfl⟩⟩ | exact ⟨rfl, ⟨rfl⟩⟩
                  refine ⟨fun hf _ => ?_, ?_⟩
                  · obtain ⟨hq0, hq1, hq2, -⟩ := hf
                    obtain rfl : x32 = _ := hq0
                    obtain rfl : x33 = _ := hq1
                    obtain rfl : x25 = _ := hq2
                    refine .inl ⟨by rfl, ?_⟩
                    simp only [Reg.ung]
                    go_wp2
                    first | exact ⟨_, rfl, hG, ⟨rfl⟩, rfl⟩ | exact ⟨rfl, hG, ⟨rfl⟩, rfl⟩ | exact ⟨rfl, hG, ⟨rfl⟩⟩ | exact ⟨rfl, ⟨rfl⟩⟩
                  refine ⟨fun hf _ => ?_, ?_⟩
                  · obtain ⟨hq0, hq1, -⟩ := hf
                    obtain rfl : x34 = _ := hq0
                    obtain rfl : x25 = _ := hq1
                    refine .inl ⟨by rfl, ?_⟩
                    simp only [Reg.ung]
                    go_wp2
                    first | exact ⟨_, rfl, hG, ⟨rfl⟩, rfl⟩ | exact ⟨rfl, hG, ⟨rfl⟩, rfl⟩ | exact ⟨rfl, hG, ⟨rfl⟩⟩ | exact ⟨rfl, ⟨rfl⟩⟩
                  refine ⟨fun hf _ => ?_, ?_⟩
                  · obtain ⟨hq0, hq1, -⟩ := hf
                    obtain rfl : x35 = _ := hq0
                    obtain rfl : x25 = _ := hq1
                    refine .inl ⟨by rfl, ?_⟩
                    simp only [Reg.ung]
                    go_wp2
                    first | exact ⟨_, rfl, hG, ⟨rfl⟩, rfl⟩ | exact ⟨rfl, hG, ⟨rfl⟩, rfl⟩ | exact ⟨rfl, hG, ⟨rfl⟩⟩ | exact ⟨rfl, ⟨rfl⟩⟩
                  refine ⟨fun hf _ => ?_, ?_⟩
                  · obtain ⟨hq0, hq1, hq2, -⟩ := hf
                    obtain rfl : x31 = _ := hq0
                    obtain rfl : x36 = _ := hq1
                    obtain rfl : x25 = _ := hq2
                    refine .inl ⟨by rfl, ?_⟩
                    simp only [Reg.ung]
                    go_wp2
                    first | exact ⟨_, rfl, hG, ⟨rfl⟩, rfl⟩ | exact ⟨rfl, hG, ⟨rfl⟩, rfl⟩ | exact ⟨rfl, hG, ⟨rfl⟩⟩ | exact ⟨rfl, ⟨rfl⟩⟩
                  refine ⟨fun hf _ => ?_, ?_⟩
                  · obtain ⟨hq0, hq1, hq2, -⟩ := hf
                    obtain rfl : x25 = _ := hq0
                    obtain rfl : x37 = _ := hq1
                    obtain rfl : x12 = _ := hq2
                    refine .inl ⟨by rfl, ?_⟩
                    simp only [Reg.ung]
                    go_wp2
                    first | exact ⟨_, rfl, hG, ⟨rfl⟩, rfl⟩ | exact ⟨rfl, hG, ⟨rfl⟩, rfl⟩ | exact ⟨rfl, hG, ⟨rfl⟩⟩ | exact ⟨rfl, ⟨rfl⟩⟩
                  refine ⟨fun hf _ => ?_, ?_⟩
                  · obtain ⟨hq0, hq1, -⟩ := hf
                    obtain rfl : x12 = _ := hq0
                    obtain rfl : x38 = _ := hq1
                    refine .inl ⟨by rfl, ?_⟩
                    simp only [Reg.ung]
                    go_wp2
                    first | exact ⟨_, rfl, hG, ⟨rfl⟩, rfl⟩ | exact ⟨rfl, hG, ⟨rfl⟩, rfl⟩ | exact ⟨rfl, hG, ⟨rfl⟩⟩ | exact ⟨rfl, ⟨rfl⟩⟩
                  exact trivial
                case he =>
                  intro xs hl0_ wr hG hf
                  obtain ⟨x0, xs1, rfl, hl1⟩ := Reg.len_succ hl0_
                  obtain ⟨x1, xs2, rfl, hl2⟩ := Reg.len_succ hl1
                  obtain ⟨x2, xs3, rfl, hl3⟩ := Reg.len_succ hl2
                  obtain ⟨x3, xs4, rfl, hl4⟩ := Reg.len_succ hl3
                  obtain ⟨x4, xs5, rfl, hl5⟩ := Reg.len_succ hl4
                  obtain ⟨x5, xs6, rfl, hl6⟩ := Reg.len_succ hl5
                  obtain ⟨x6, xs7, rfl, hl7⟩ := Reg.len_succ hl6
                  obtain ⟨x7, xs8, rfl, hl8⟩ := Reg.len_succ hl7
                  obtain ⟨x8, xs9, rfl, hl9⟩ := Reg.len_succ hl8
                  obtain ⟨x9, xs10, rfl, hl10⟩ := Reg.len_succ hl9
                  obtain ⟨x10, xs11, rfl, hl11⟩ := Reg.len_succ hl10
                  obtain ⟨x11, xs12, rfl, hl12⟩ := Reg.len_succ hl11
                  obtain ⟨x12, xs13, rfl, hl13⟩ := Reg.len_succ hl12
                  obtain ⟨x13, xs14, rfl, hl14⟩ := Reg.len_succ hl13
                  obtain ⟨x14, xs15, rfl, hl15⟩ := Reg.len_succ hl14
                  obtain ⟨x15, xs16, rfl, hl16⟩ := Reg.len_succ hl15
                  obtain ⟨x16, xs17, rfl, hl17⟩ := Reg.len_succ hl16
                  obtain ⟨x17, xs18, rfl, hl18⟩ := Reg.len_succ hl17
                  obtain ⟨x18, xs19, rfl, hl19⟩ := Reg.len_succ hl18
                  obtain ⟨x19, xs20, rfl, hl20⟩ := Reg.len_succ hl19
                  obtain ⟨x20, xs21, rfl, hl21⟩ := Reg.len_succ hl20
                  obtain ⟨x21, xs22, rfl, hl22⟩ := Reg.len_succ hl21
                  obtain ⟨x22, xs23, rfl, hl23⟩ := Reg.len_succ hl22
                  obtain ⟨x23, xs24, rfl, hl24⟩ := Reg.len_succ hl23
                  obtain ⟨x24, xs25, rfl, hl25⟩ := Reg.len_succ hl24
                  obtain ⟨x25, xs26, rfl, hl26⟩ := Reg.len_succ hl25
                  obtain ⟨x26, xs27, rfl, hl27⟩ := Reg.len_succ hl26
                  obtain ⟨x27, xs28, rfl, hl28⟩ := Reg.len_succ hl27
                  obtain ⟨x28, xs29, rfl, hl29⟩ := Reg.len_succ hl28
                  obtain ⟨x29, xs30, rfl, hl30⟩ := Reg.len_succ hl29
                  obtain ⟨x30, xs31, rfl, hl31⟩ := Reg.len_succ hl30
                  obtain ⟨x31, xs32, rfl, hl32⟩ := Reg.len_succ hl31
                  obtain ⟨x32, xs33, rfl, hl33⟩ := Reg.len_succ hl32
                  obtain ⟨x33, xs34, rfl, hl34⟩ := Reg.len_succ hl33
                  obtain ⟨x34, xs35, rfl, hl35⟩ := Reg.len_succ hl34
                  obtain ⟨x35, xs36, rfl, hl36⟩ := Reg.len_succ hl35
                  obtain ⟨x36, xs37, rfl, hl37⟩ := Reg.len_succ hl36
                  obtain ⟨x37, xs38, rfl, hl38⟩ := Reg.len_succ hl37
                  obtain ⟨x38, xs39, rfl, hl39⟩ := Reg.len_succ hl38
                  obtain ⟨x39, xs40, rfl, hl40⟩ := Reg.len_succ hl39
                  obtain rfl := List.eq_nil_of_length_eq_zero hl40
                  clear hl0_ hl1 hl2 hl3 hl4 hl5 hl6 hl7 hl8 hl9 hl10 hl11 hl12 hl13 hl14 hl15 hl16 hl17 hl18 hl19 hl20 hl21 hl22 hl23 hl24 hl25 hl26 hl27 hl28 hl29 hl30 hl31 hl32 hl33 hl34 hl35 hl36 hl37 hl38 hl39 hl40
                  obtain ⟨hq0, hq1, hq2, hq3, hq4, hq5, hq6, hq7, hq8, hq9, hq10, hq11, hq12, hq13, hq14, hq15, hq16, hq17, hq18, hq19, hq20, hq21, hq22, hq23, hq24, hq25, hq26, hq27, hq28, hq29, hq30, hq31, hq32, hq33, hq34, hq35, hq36, hq37, hq38, hq39, -⟩ := hf
                  obtain rfl : x0 = _ := hq0
                  obtain rfl : x1 = _ := hq1
                  obtain rfl : x2 = _ := hq2
                  obtain rfl : x3 = _ := hq3
                  obtain rfl : x4 = _ := hq4
                  obtain rfl : x5 = _ := hq5
                  obtain rfl : x6 = _ := hq6
                  obtain rfl : x7 = _ := hq7
                  obtain rfl : x8 = _ := hq8
                  obtain rfl : x9 = _ := hq9
                  obtain rfl : x10 = _ := hq10
                  obtain rfl : x11 = _ := hq11
                  obtain rfl : x12 = _ := hq12
                  obtain rfl : x13 = _ := hq13
                  obtain rfl : x14 = _ := hq14
                  obtain rfl : x15 = _ := hq15
                  obtain rfl : x16 = _ := hq16
                  obtain rfl : x17 = _ := hq17
                  obtain rfl : x18 = _ := hq18
                  obtain rfl : x19 = _ := hq19
                  obtain rfl : x20 = _ := hq20
                  obtain rfl : x21 = _ := hq21
                  obtain rfl : x22 = _ := hq22
                  obtain rfl : x23 = _ := hq23
                  obtain rfl : x24 = _ := hq24
                  obtain rfl : x25 = _ := hq25
                  obtain rfl : x26 = _ := hq26
                  obtain rfl : x27 = _ := hq27
                  obtain rfl : x28 = _ := hq28
                  obtain rfl : x29 = _ := hq29
                  obtain rfl : x30 = _ := hq30
                  obtain rfl : x31 = _ := hq31
                  obtain rfl : x32 = _ := hq32
                  obtain rfl : x33 = _ := hq33
                  obtain rfl : x34 = _ := hq34
                  obtain rfl : x35 = _ := hq35
                  obtain rfl : x36 = _ := hq36
                  obtain rfl : x37 = _ := hq37
                  obtain rfl : x38 = _ := hq38
                  obtain rfl : x39 = _ := hq39
                  simp only [Reg.putL, Act.put, List.setIfInBounds_toArray, List.set_cons_succ, List.set_cons_zero]
                  obtain rfl := hG.out
                  go_wp2_with (fail)
                  go_roundg k1
                  case measure => omega
                  case rel => exact ⟨k + 1, by first | (simp; done) | (simp; unfold wrap64; omega), ⟨by omega⟩, HBD⟩
              · have hcq : (x.f1 == y.f1) = false := beq_eq_false_iff_ne.2 hxy
                have hcq2 : decide (x.f1 = y.f1) = false := decide_eq_false hxy
                refine Reg.region_list hmix [some 40, some 41, some 42, some 43, some 44, some 45, some 46, some 47, some 48, some 49, some 50, some 51, some 52, some 53, some 54, some 55, some 56, some 57, some 58, some 59, some 60, some 61, some 62, some 63, some 64, some 65, some 66, some 67, some 68, some 69, some 70, some 71, some 72, some 73, some 74, some 75, some 76, some 77, some 78, some 79] [[], [], [1], [0, 2], [3], [4], [], [], [6, 7], [8], [9], [5, 10], [11], [12], [12], [14, 12], [13, 15, 12], [16, 12], [17, 12], [12], [12], [19, 20, 12], [21, 12], [22, 12], [18, 23, 12], [24, 12, 12], [25], [25], [27, 25], [26, 28, 25], [29, 25], [30, 25], [25], [25], [32, 33, 25], [34, 25], [35, 25], [31, 36, 25], [25, 37, 12], [12, 38]] (fun w => Aside0 (w = wd)) (fun w w' => Aside0 (w' = w)) [(fun v w => v = (.slice (some ad) m c2 : Value)), (fun v w => v = (.int .i64 ((k : Int) + 1) : Value)), (fun v w => v = (.int .i64 (k : Int) : Value)), (fun v w => v = (.pointer (some (ad.add (k * 7))) : Value)), (fun v w => v = (.pointer (some ⟨(ad.add (k * 7)).block, (ad.add (k * 7)).off + 5, none⟩) : Value)), (fun v w => v = (.int .i64 x.f1 : Value)), (fun v w => v = (.slice (some ad) m c2 : Value)), (fun v w => v = (.int .i64 ((k : Int) + 1) : Value)), (fun v w => v = (.pointer (some (ad.add ((k + 1) * 7))) : Value)), (fun v w => v = (.pointer (some ⟨(ad.add ((k + 1) * 7)).block, (ad.add ((k + 1) * 7)).off + 5, none⟩) : Value)), (fun v w => v = (.int .i64 y.f1 : Value)), (fun v w => v = (.bool false : Value)), (fun v w => v = (.bool false : Value)), (fun v w => v = (.slice (some ad) m c2 : Value)), (fun v w => v = (.int .i64 ((k : Int) + 1) : Value)), (fun v w => v = (.int .i64 (k : Int) : Value)), (fun v w => v = (.pointer (some (ad.add (k * 7))) : Value)), (fun v w => v = (.pointer (some ⟨(ad.add (k * 7)).block, (ad.add (k * 7)).off + 5, none⟩) : Value)), (fun v w => v = (.int .i64 x.f1 : Value)), (fun v w => v = (.slice (some ad) m c2 : Value)), (fun v w => v = (.int .i64 ((k : Int) + 1) : Value)), (fun v w => v = (.pointer (some (ad.add ((k + 1) * 7))) : Value)), (fun v w => v = (.pointer (some ⟨(ad.add ((k + 1) * 7)).block, (ad.add ((k + 1) * 7)).off + 5, none⟩) : Value)), (fun v w => v = (.int .i64 y.f1 : Value)), (fun v w => v = (.bool false : Value)), (fun v w => v = (.bool false : Value)), (fun v w => v = (undef : Value)), (fun v w => v = (undef : Value)), (fun v w => v = (undef : Value)), (fun v w => v = (undef : Value)), (fun v w => v = (undef : Value)), (fun v w => v = (undef : Value)), (fun v w => v = (undef : Value)), (fun v w => v = (undef : Value)), (fun v w => v = (undef : Value)), (fun v w => v = (undef : Value)), (fun v w => v = (undef : Value)), (fun v w => v = (undef : Value)), (fun v w => v = (.bool false : Value)), (fun v w => v = (.bool false : Value))] rfl (by kernel_rfl) (by kernel_rfl) (fun _ => ⟨rfl⟩) (fun _ _ hr => Reg.mono_cons (fun _ h => h) (Reg.mono_cons (fun _ h => h) (Reg.mono_cons (fun _ h => h) (Reg.mono_cons (fun _ h => h) (Reg.mono_cons (fun _ h => h) (Reg.mono_cons (fun _ h => h) (Reg.mono_cons (fun _ h => h) (Reg.mono_cons (fun _ h => h) (Reg.mono_cons (fun _ h => h) (Reg.mono_cons (fun _ h => h) (Reg.mono_cons (fun _ h => h) (Reg.mono_cons (fun _ h => h) (Reg.mono_cons (fun _ h => h) (Reg.mono_cons (fun _ h => h) (Reg.mono_cons (fun _ h => h) (Reg.mono_cons (fun _ h => h) (Reg.mono_cons (fun _ h => h) (Reg.mono_cons (fun _ h => h) (Reg.mono_cons (fun _ h => h) (Reg.mono_cons (fun _ h => h) (Reg.mono_cons (fun _ h => h) (Reg.mono_cons (fun _ h => h) (Reg.mono_cons (fun _ h => h) (Reg.mono_cons (fun _ h => h) (Reg.mono_cons (fun _ h => h) (Reg.mono_cons (fun _ h => h) (Reg.mono_cons (fun _ h => h) (Reg.mono_cons (fun _ h => h) (Reg.mono_cons (fun _ h => h) (Reg.mono_cons (fun _ h => h) (Reg.mono_cons (fun _ h => h) (Reg.mono_cons (fun _ h => h) (Reg.mono_cons (fun _ h => h) (Reg.mono_cons (fun _ h => h) (Reg.mono_cons (fun _ h => h) (Reg.mono_cons (fun _ h => h) (Reg.mono_cons (fun _ h => h) (Reg.mono_cons (fun _ h => h) (Reg.mono_cons (fun _ h => h) (Reg.mono_cons (fun _ h => h) (Reg.mono_nil))))))))))))))))))))))))))))))))))))))))) (⟨HWD.out.symm⟩) ?hs ?he
                case hs =>
                  intro xs0 xs hx0 hl0_ wr hG
                  clear hx0
                  obtain ⟨x0, xs1, rfl, hl1⟩ := Reg.len_succ hl0_
                  obtain ⟨x1, xs2, rfl, hl2⟩ := Reg.len_succ hl1
                  obtain ⟨x2, xs3, rfl, hl3⟩ := Reg.len_succ hl2
                  obtain ⟨x3, xs4, rfl, hl4⟩ := Reg.len_succ hl3
                  obtain ⟨x4, xs5, rfl, hl5⟩ := Reg.len_succ hl4
                  obtain ⟨x5, xs6, rfl, hl6⟩ := Reg.len_succ hl5
                  obtain ⟨x6, xs7, rfl, hl7⟩ := Reg.len_succ hl6
                  obtain ⟨x7, xs8, rfl, hl8⟩ := Reg.len_succ hl7
                  obtain ⟨x8, xs9, rfl, hl9⟩ := Reg.len_succ hl8
                  obtain ⟨x9, xs10, rfl, hl10⟩ := Reg.len_succ hl9
                  obtain ⟨x10, xs11, rfl, hl11⟩ := Reg.len_succ hl10
                  obtain ⟨x11, xs12, rfl, hl12⟩ := Reg.len_succ hl11
                  obtain ⟨x12, xs13, rfl, hl13⟩ := Reg.len_succ hl12
                  obtain ⟨x13, xs14, rfl, hl14⟩ := Reg.len_succ hl13
                  obtain ⟨x14, xs15, rfl, hl15⟩ := Reg.len_succ hl14
                  obtain ⟨x15, xs16, rfl, hl16⟩ := Reg.len_succ hl15
                  obtain ⟨x16, xs17, rfl, hl17⟩ := Reg.len_succ hl16
                  obtain ⟨x17, xs18, rfl, hl18⟩ := Reg.len_succ hl17
                  obtain ⟨x18, xs19, rfl, hl19⟩ := Reg.len_succ hl18
                  obtain ⟨x19, xs20, rfl, hl20⟩ := Reg.len_succ hl19
                  obtain ⟨x20, xs21, rfl, hl21⟩ := Reg.len_succ hl20
                  obtain ⟨x21, xs22, rfl, hl22⟩ := Reg.len_succ hl21
                  obtain ⟨x22, xs23, rfl, hl23⟩ := Reg.len_succ hl22
                  obtain ⟨x23, xs24, rfl, hl24⟩ := Reg.len_succ hl23
                  obtain ⟨x24, xs25, rfl, hl25⟩ := Reg.len_succ hl24
                  obtain ⟨x25, xs26, rfl, hl26⟩ := Reg.len_succ hl25
                  obtain ⟨x26, xs27, rfl, hl27⟩ := Reg.len_succ hl26
                  obtain ⟨x27, xs28, rfl, hl28⟩ := Reg.len_succ hl27
                  obtain ⟨x28, xs29, rfl, hl29⟩ := Reg.len_succ hl28
                  obtain ⟨x29, xs30, rfl, hl30⟩ := Reg.len_succ hl29
                  obtain ⟨x30, xs31, rfl, hl31⟩ := Reg.len_succ hl30
                  obtain ⟨x31, xs32, rfl, hl32⟩ := Reg.len_succ hl31
                  obtain ⟨x32, xs33, rfl, hl33⟩ := Reg.len_succ hl32
                  obtain ⟨x33, xs34, rfl, hl34⟩ := Reg.len_succ hl33
                  obtain ⟨x34, xs35, rfl, hl35⟩ := Reg.len_succ hl34
                  obtain ⟨x35, xs36, rfl, hl36⟩ := Reg.len_succ hl35
                  obtain ⟨x36, xs37, rfl, hl37⟩ := Reg.len_succ hl36
                  obtain ⟨x37, xs38, rfl, hl38⟩ := Reg.len_succ hl37
                  obtain ⟨x38, xs39, rfl, hl39⟩ := Reg.len_succ hl38
                  obtain ⟨x39, xs40, rfl, hl40⟩ := Reg.len_succ hl39
                  obtain rfl := List.eq_nil_of_length_eq_zero hl40
                  clear hl0_ hl1 hl2 hl3 hl4 hl5 hl6 hl7 hl8 hl9 hl10 hl11 hl12 hl13 hl14 hl15 hl16 hl17 hl18 hl19 hl20 hl21 hl22 hl23 hl24 hl25 hl26 hl27 hl28 hl29 hl30 hl31 hl32 hl33 hl34 hl35 hl36 hl37 hl38 hl39 hl40
                  simp only [Reg.putL, Act.put, List.setIfInBounds_toArray, List.set_cons_succ, List.set_cons_zero]
                  obtain rfl := hG.out
                  refine ⟨fun hf _ => ?_, ?_⟩
                  · clear hf
                    refine .inl ⟨by rfl, ?_⟩
                    simp only [Reg.ung]
                    go_wp2
                    first | exact ⟨_, rfl, hG, ⟨rfl⟩, rfl⟩ | exact ⟨rfl, hG, ⟨rfl⟩, rfl⟩ | exact ⟨rfl, hG, ⟨rfl⟩⟩ | exact ⟨rfl, ⟨rfl⟩⟩
                  refine ⟨fun hf _ => ?_, ?_⟩
                  · clear hf
                    refine .inl ⟨by rfl, ?_⟩
                    simp only [Reg.ung]
                    go_wp2
                    first | exact ⟨_, rfl, hG, ⟨rfl⟩, rfl⟩ | exact ⟨rfl, hG, ⟨rfl⟩, rfl⟩ | exact ⟨rfl, hG, ⟨rfl⟩⟩ | exact ⟨rfl, ⟨rfl⟩⟩
                  refine ⟨fun hf _ => ?_, ?_⟩
                  · obtain ⟨hq0, -⟩ := hf
                    obtain rfl : x1 = _ := hq0
                    refine .inl ⟨by rfl, ?_⟩
                    simp only [Reg.ung]
                    go_wp2
                    first | exact ⟨_, rfl, hG, ⟨rfl⟩, rfl⟩ | exact ⟨rfl, hG, ⟨rfl⟩, rfl⟩ | exact ⟨rfl, hG, ⟨rfl⟩⟩ | exact ⟨rfl, ⟨rfl⟩⟩
                  refine ⟨fun hf _ => ?_, ?_⟩
                  · obtain ⟨hq0, hq1, -⟩ := hf
                    obtain rfl : x0 = _ := hq0
                    obtain rfl : x2 = _ := hq1
                    refine .inl ⟨by rfl, ?_⟩
                    simp only [Reg.ung]
                    go_wp2
                    first | exact ⟨_, rfl, hG, ⟨rfl⟩, rfl⟩ | exact ⟨rfl, hG, ⟨rfl⟩, rfl⟩ | exact ⟨rfl, hG, ⟨rfl⟩⟩ | exact ⟨rfl, ⟨rfl⟩⟩
                  refine ⟨fun hf _ => ?_, ?_⟩
                  · obtain ⟨hq0, -⟩ := hf
                    obtain rfl : x3 = _ := hq0
                    refine .inl ⟨by rfl, ?_⟩
                    simp only [Reg.ung]
                    go_wp2
                    first | exact ⟨_, rfl, hG, ⟨rfl⟩, rfl⟩ | exact ⟨rfl, hG, ⟨rfl⟩, rfl⟩ | exact ⟨rfl, hG, ⟨rfl⟩⟩ | exact ⟨rfl, ⟨rfl⟩⟩
                  refine ⟨fun hf _ => ?_, ?_⟩
                  · obtain ⟨hq0, -⟩ := hf
                    obtain rfl : x4 = _ := hq0
                    refine .inl ⟨by rfl, ?_⟩
                    simp only [Reg.ung]
                    go_wp2
                    first | exact ⟨_, rfl, hG, ⟨rfl⟩, rfl⟩ | exact ⟨rfl, hG, ⟨rfl⟩, rfl⟩ | exact ⟨rfl, hG, ⟨rfl⟩⟩ | exact ⟨rfl, ⟨rfl⟩⟩
                  refine ⟨fun hf _ => ?_, ?_⟩
                  · clear hf
                    refine .inl ⟨by rfl, ?_⟩
                    simp only [Reg.ung]
                    go_wp2
                    first | exact ⟨_, rfl, hG, ⟨rfl⟩, rfl⟩ | exact ⟨rfl, hG, ⟨rfl⟩, rfl⟩ | exact ⟨rfl, hG, ⟨rfl⟩⟩ | exact ⟨rfl, ⟨rfl⟩⟩
                  refine ⟨fun hf _ => ?_, ?_⟩
                  · clear hf
                    refine .inl ⟨by rfl, ?_⟩
                    simp only [Reg.ung]
                    go_wp2
                    first | exact ⟨_, rfl, hG, ⟨rfl⟩, rfl⟩ | exact ⟨rfl, hG, ⟨rfl⟩, rfl⟩ | exact ⟨rfl, hG, ⟨rfl⟩⟩ | exact ⟨rfl, ⟨rfl⟩⟩
                  refine ⟨fun hf _ => ?_, ?_⟩
                  · obtain ⟨hq0, hq1, -⟩ := hf
                    obtain rfl : x6 = _ := hq0
                    obtain rfl : x7 = _ := hq1
                    refine .inl ⟨by rfl, ?_⟩
                    simp only [Reg.ung]
                    go_wp2
                    first | exact ⟨_, rfl, hG, ⟨rfl⟩, rfl⟩ | exact ⟨rfl, hG, ⟨rfl⟩, rfl⟩ | exact ⟨rfl, hG, ⟨rfl⟩⟩ | exact ⟨rfl, ⟨rfl⟩⟩
                  refine ⟨fun hf _ => ?_, ?_⟩
                  · obtain ⟨hq0, -⟩ := hf
                    obtain rfl : x8 = _ := hq0
                    refine .inl ⟨by rfl, ?_⟩
                    simp only [Reg.ung]
                    go_wp2
                    first | exact ⟨_, rfl, hG, ⟨rfl⟩, rfl⟩ | exact ⟨rfl, hG, ⟨rfl⟩, rfl⟩ | exact ⟨rfl, hG, ⟨rfl⟩⟩ | exact ⟨rfl, ⟨rfl⟩⟩
                  refine ⟨fun hf _ => ?_, ?_⟩
                  · obtain ⟨hq0, -⟩ := hf
                    obtain rfl : x9 = _ := hq0
                    refine .inl ⟨by rfl, ?_⟩
                    simp only [Reg.ung]
                    go_wp2
                    first | exact ⟨_, rfl, hG, ⟨rfl⟩, rfl⟩ | exact ⟨rfl, hG, ⟨rfl⟩, rfl⟩ | exact ⟨rfl, hG, ⟨rfl⟩⟩ | exact ⟨rfl, ⟨rfl⟩⟩
                  refine ⟨fun hf _ => ?_, ?_⟩
                  · obtain ⟨hq0, hq1, -⟩ := hf
                    obtain rfl : x5 = _ := hq0
                    obtain rfl : x10 = _ := hq1
                    refine .inl ⟨by rfl, ?_⟩
                    simp only [Reg.ung]
                    go_wp2
                    first | exact ⟨_, rfl, hG, ⟨rfl⟩, rfl⟩ | exact ⟨rfl, hG, ⟨rfl⟩, rfl⟩ | exact ⟨rfl, hG, ⟨rfl⟩⟩ | exact ⟨rfl, ⟨rfl⟩⟩
                  refine ⟨fun hf _ => ?_, ?_⟩
                  · obtain ⟨hq0, -⟩ := hf
                    obtain rfl : x11 = _ := hq0
                    refine .inl ⟨by rfl, ?_⟩
                    simp only [Reg.ung]
                    go_wp2
                    first | exact ⟨_, rfl, hG, ⟨rfl⟩, rfl⟩ | exact ⟨rfl, hG, ⟨rfl⟩, rfl⟩ | exact ⟨rfl, hG, ⟨rfl⟩⟩ | exact ⟨rfl, ⟨rfl⟩⟩
                  refine ⟨fun hf _ => ?_, ?_⟩
                  · obtain ⟨hq0, -⟩ := hf
                    obtain rfl : x12 = _ := hq0
                    refine .inl ⟨by rfl, ?_⟩
                    simp only [Reg.ung]
                    go_wp2
                    first | exact ⟨_, rfl, hG, ⟨rfl⟩, rfl⟩ | exact ⟨rfl, hG, ⟨rfl⟩, rfl⟩ | exact ⟨rfl, hG, ⟨rfl⟩⟩ | exact ⟨rfl, ⟨rfl⟩⟩
                  refine ⟨fun hf _ => ?_, ?_⟩
                  · obtain ⟨hq0, -⟩ := hf
                    obtain rfl : x12 = _ := hq0
                    refine .inl ⟨by rfl, ?_⟩
                    simp only [Reg.ung]
                    go_wp2
                    first | exact ⟨_, rfl, hG, ⟨rfl⟩, rfl⟩ | exact ⟨rfl, hG, ⟨rfl⟩, rfl⟩ | exact ⟨rfl, hG, ⟨rfl⟩⟩ | exact ⟨rfl, ⟨rfl⟩⟩
                  refine ⟨fun hf _ => ?_, ?_⟩
                  · obtain ⟨hq0, hq1, -⟩ := hf
                    obtain rfl : x14 = _ := hq0
                    obtain rfl : x12 = _ := hq1
                    refine .inl ⟨by rfl, ?_⟩
                    simp only [Reg.ung]
                    go_wp2
                    first | exact ⟨_, rfl, hG, ⟨rfl⟩, rfl⟩ | exact ⟨rfl, hG, ⟨rfl⟩, rfl⟩ | exact ⟨rfl, hG, ⟨rfl⟩⟩ | exact ⟨rfl, ⟨rfl⟩⟩
                  refine ⟨fun hf _ => ?_, ?_⟩
                  · obtain ⟨hq0, hq1, hq2, -⟩ := hf
                    obtain rfl : x13 = _ := hq0
                    obtain rfl : x15 = _ := hq1
                    obtain rfl : x12 = _ := hq2
                    refine .inl ⟨by rfl, ?_⟩
                    simp only [Reg.ung]
                    go_wp2
                    first | exact ⟨_, rfl, hG, ⟨rfl⟩, rfl⟩ | exact ⟨rfl, hG, ⟨rfl⟩, rfl⟩ | exact ⟨rfl, hG, ⟨rfl⟩⟩ | exact ⟨rfl, ⟨rfl⟩⟩
                  refine ⟨fun hf _ => ?_, ?_⟩
                  · obtain ⟨hq0, hq1, -⟩ := hf
                    obtain rfl : x16 = _ := hq0
                    obtain rfl : x12 = _ := hq1
                    refine .inl ⟨by rfl, ?_⟩
                    simp only [Reg.ung]
                    go_wp2
                    first | exact ⟨_, rfl, hG, ⟨rfl⟩, rfl⟩ | exact ⟨rfl, hG, ⟨rfl⟩, rfl⟩ | exact ⟨rfl, hG, ⟨rfl⟩⟩ | exact ⟨rfl, ⟨rfl⟩⟩
                  refine ⟨fun hf _ => ?_, ?_⟩
                  · obtain ⟨hq0, hq1, -⟩ := hf
                    obtain rfl : x17 = _ := hq0
                    obtain rfl : x12 = _ := hq1
                    refine .inl ⟨by rfl, ?_⟩
                    simp only [Reg.ung]
                    go_wp2
                    first | exact ⟨_, rfl, hG, ⟨rfl⟩, rfl⟩ | exact ⟨rfl, hG, ⟨rfl⟩, rfl⟩ | exact ⟨rfl, hG, ⟨rfl⟩⟩ | exact ⟨rfl, ⟨rfl⟩⟩
                  refine ⟨fun hf _ => ?_, ?_⟩
                  · obtain ⟨hq0, -⟩ := hf
                    obtain rfl : x12 = _ := hq0
                    refine .inl ⟨by rfl, ?_⟩
                    simp only [Reg.ung]
                    go_wp2
                    first | exact ⟨_, rfl, hG, ⟨rfl⟩, rfl⟩ | exact ⟨rfl, hG, ⟨rfl⟩, rfl⟩ | exact ⟨rfl, hG, ⟨rfl⟩⟩ | exact ⟨rfl, ⟨rfl⟩⟩
                  refine ⟨fun hf _ => ?_, ?_⟩
                  · obtain ⟨hq0, -⟩ := hf
                    obtain rfl : x12 = _ := hq0
                    refine .inl ⟨by rfl, ?_⟩
                    simp only [Reg.ung]
                    go_wp2
                    first | exact ⟨_, rfl, hG, ⟨rfl⟩, rfl⟩ | exact ⟨rfl, hG, ⟨rfl⟩, rfl⟩ | exact ⟨rfl, hG, ⟨rfl⟩⟩ | exact ⟨rfl, ⟨rfl⟩⟩
                  refine ⟨fun hf _ => ?_, ?_⟩
                  · obtain ⟨hq0, hq1, hq2, -⟩ := hf
                    obtain rfl : x19 = _ := hq0
                    obtain rfl : x20 = _ := hq1
                    obtain rfl : x12 = _ := hq2
                    refine .inl ⟨by rfl, ?_⟩
                    simp only [Reg.ung]
                    go_wp2
                    first | exact ⟨_, rfl, hG, ⟨rfl⟩, rfl⟩ | exact ⟨rfl, hG, ⟨rfl⟩, rfl⟩ | exact ⟨rfl, hG, ⟨rfl⟩⟩ | exact ⟨rfl, ⟨rfl⟩⟩
                  refine ⟨fun hf _ => ?_, ?_⟩
                  · obtain ⟨hq0, hq1, -⟩ := hf
                    obtain rfl : x21 = _ := hq0
                    obtain rfl : x12 = _ := hq1
                    refine .inl ⟨by rfl, ?_⟩
                    simp only [Reg.ung]
                    go_wp2
                    first | exact ⟨_, rfl, hG, ⟨rfl⟩, rfl⟩ | exact ⟨rfl, hG, ⟨rfl⟩, rfl⟩ | exact ⟨rfl, hG, ⟨rfl⟩⟩ | exact ⟨rfl, ⟨rfl⟩⟩
                  refine ⟨fun hf _ => ?_, ?_⟩
                  · obtain ⟨hq0, hq1, -⟩ := hf
                    obtain rfl : x22 = _ := hq0
                    obtain rfl : x12 = _ := hq1
                    refine .inl ⟨by rfl, ?_⟩
                    simp only [Reg.ung]
                    go_wp2
                    first | exact ⟨_, rfl, hG, ⟨rfl⟩, rfl⟩ | exact ⟨rfl, hG, ⟨rfl⟩, rfl⟩ | exact ⟨rfl, hG, ⟨rfl⟩⟩ | exact ⟨rfl, ⟨rfl⟩⟩
                  refine ⟨fun hf _ => ?_, ?_⟩
                  · obtain ⟨hq0, hq1, hq2, -⟩ := hf
                    obtain rfl : x18 = _ := hq0
                    obtain rfl : x23 = _ := hq1
                    obtain rfl : x12 = _ := hq2
                    refine .inl ⟨by rfl, ?_⟩
                    simp only [Reg.ung]
                    go_wp2
                    first | exact ⟨_, rfl, hG, ⟨rfl⟩, rfl⟩ | exact ⟨rfl, hG, ⟨rfl⟩, rfl⟩ | exact ⟨rfl, hG, ⟨rfl⟩⟩ | exact ⟨rfl, ⟨rfl⟩⟩
                  refine ⟨fun hf _ => ?_, ?_⟩
                  · obtain ⟨hq0, hq1, -, -⟩ := hf
                    obtain rfl : x24 = _ := hq0
                    obtain rfl : x12 = _ := hq1
                    refine .inl ⟨by rfl, ?_⟩
                    simp only [Reg.ung]
                    go_wp2
                    first | exact ⟨_, rfl, hG, ⟨rfl⟩, rfl⟩ | exact ⟨rfl, hG, ⟨rfl⟩, rfl⟩ | exact ⟨rfl, hG, ⟨rfl⟩⟩ | exact ⟨rfl, ⟨rfl⟩⟩
                  refine ⟨fun hf _ => ?_, ?_⟩
                  · obtain ⟨hq0, -⟩ := hf
                    obtain rfl : x25 = _ := hq0
                    exact .inr ⟨by rfl, rfl⟩
                  refine ⟨fun hf _ => ?_, ?_⟩
                  · obtain ⟨hq0, -⟩ := hf
                    obtain rfl : x25 = _ := hq0
                    exact .inr ⟨by rfl, rfl⟩
                  refine ⟨fun hf _ => ?_, ?_⟩
                  · obtain ⟨hq0, hq1, -⟩ := hf
                    obtain rfl : x27 = _ := hq0
                    obtain rfl : x25 = _ := hq1
                    exact .inr ⟨by rfl, rfl⟩
                  refine ⟨fun hf _ => ?_, ?_⟩
                  · obtain ⟨hq0, hq1, hq2, -⟩ := hf
                    obtain rfl : x26 = _ := hq0
                    obtain rfl : x28 = _ := hq1
                    obtain rfl : x25 = _ := hq2
                    exact .inr ⟨by rfl, rfl⟩
                  refine ⟨fun hf _ => ?_, ?_⟩
                  · obtain ⟨hq0, hq1, -⟩ := hf
                    obtain rfl : x29 = _ := hq0
                    obtain rfl : x25 = _ := hq1
                    exact .inr ⟨by rfl, rfl⟩
                  refine ⟨fun hf _ => ?_, ?_⟩
                  · obtain ⟨hq0, hq1, -⟩ := hf
                    obtain rfl : x30 = _ := hq0
                    obtain rfl : x25 = _ := hq1
                    exact .inr ⟨by rfl, rfl⟩
                  refine ⟨fun hf _ => ?_, ?_⟩
                  · obtain ⟨hq0, -⟩ := hf
                    obtain rfl : x25 = _ := hq0
                    exact .inr ⟨by rfl, rfl⟩
                  refine ⟨fun hf _ => ?_, ?_⟩
                  · obtain ⟨hq0, -⟩ := hf
                    obtain rfl : x25 = _ := hq0
                    exact .inr ⟨by rfl, rfl⟩
                  refine ⟨fun hf _ => ?_, ?_⟩
                  · obtain ⟨hq0, hq1, hq2, -⟩ := hf
                    obtain rfl : x32 = _ := hq0
                    obtain rfl : x33 = _ := hq1
                    obtain rfl : x25 = _ := hq2
                    exact .inr ⟨by rfl, rfl⟩
                  refine ⟨fun hf _ => ?_, ?_⟩
                  · obtain ⟨hq0, hq1, -⟩ := hf
                    obtain rfl : x34 = _ := hq0
                    obtain rfl : x25 = _ := hq1
                    exact .inr ⟨by rfl, rfl⟩
                  refine ⟨fun hf _ => ?_, ?_⟩
                  · obtain ⟨hq0, hq1, -⟩ := hf
                    obtain rfl : x35 = _ := hq0
                    obtain rfl : x25 = _ := hq1
                    exact .inr ⟨by rfl, rfl⟩
                  refine ⟨fun hf _ => ?_, ?_⟩
                  · obtain ⟨hq0, hq1, hq2, -⟩ := hf
                    obtain rfl : x31 = _ := hq0
                    obtain rfl : x36 = _ := hq1
                    obtain rfl : x25 = _ := hq2
                    exact .inr ⟨by rfl, rfl⟩
                  refine ⟨fun hf _ => ?_, ?_⟩
                  · obtain ⟨hq0, hq1, hq2, -⟩ := hf
                    obtain rfl : x25 = _ := hq0
                    obtain rfl : x37 = _ := hq1
                    obtain rfl : x12 = _ := hq2
                    refine .inl ⟨by rfl, ?_⟩
                    simp only [Reg.ung]
                    go_wp2
                    first | exact ⟨_, rfl, hG, ⟨rfl⟩, rfl⟩ | exact ⟨rfl, hG, ⟨rfl⟩, rfl⟩ | exact ⟨rfl, hG, ⟨rfl⟩⟩ | exact ⟨rfl, ⟨rfl⟩⟩
                  refine ⟨fun hf _ => ?_, ?_⟩
                  · obtain ⟨hq0, hq1, -⟩ := hf
                    obtain rfl : x12 = _ := hq0
                    obtain rfl : x38 = _ := hq1
                    refine .inl ⟨by rfl, ?_⟩
                    simp only [Reg.ung]
                    go_wp2
                    first | exact ⟨_, rfl, hG, ⟨rfl⟩, rfl⟩ | exact ⟨rfl, hG, ⟨rfl⟩, rfl⟩ | exact ⟨rfl, hG, ⟨rfl⟩⟩ | exact ⟨rfl, ⟨rfl⟩⟩
                  exact trivial
                case he =>
                  intro xs hl0_ wr hG hf
                  obtain ⟨x0, xs1, rfl, hl1⟩ := Reg.len_succ hl0_
                  obtain ⟨x1, xs2, rfl, hl2⟩ := Reg.len_succ hl1
                  obtain ⟨x2, xs3, rfl, hl3⟩ := Reg.len_succ hl2
                  obtain ⟨x3, xs4, rfl, hl4⟩ := Reg.len_succ hl3
                  obtain ⟨x4, xs5, rfl, hl5⟩ := Reg.len_succ hl4
                  obtain ⟨x5, xs6, rfl, hl6⟩ := Reg.len_succ hl5
                  obtain ⟨x6, xs7, rfl, hl7⟩ := Reg.len_succ hl6
                  obtain ⟨x7, xs8, rfl, hl8⟩ := Reg.len_succ hl7
                  obtain ⟨x8, xs9, rfl, hl9⟩ := Reg.len_succ hl8
                  obtain ⟨x9, xs10, rfl, hl10⟩ := Reg.len_succ hl9
                  obtain ⟨x10, xs11, rfl, hl11⟩ := Reg.len_succ hl10
                  obtain ⟨x11, xs12, rfl, hl12⟩ := Reg.len_succ hl11
                  obtain ⟨x12, xs13, rfl, hl13⟩ := Reg.len_succ hl12
                  obtain ⟨x13, xs14, rfl, hl14⟩ := Reg.len_succ hl13
                  obtain ⟨x14, xs15, rfl, hl15⟩ := Reg.len_succ hl14
                  obtain ⟨x15, xs16, rfl, hl16⟩ := Reg.len_succ hl15
                  obtain ⟨x16, xs17, rfl, hl17⟩ := Reg.len_succ hl16
                  obtain ⟨x17, xs18, rfl, hl18⟩ := Reg.len_succ hl17
                  obtain ⟨x18, xs19, rfl, hl19⟩ := Reg.len_succ hl18
                  obtain ⟨x19, xs20, rfl, hl20⟩ := Reg.len_succ hl19
                  obtain ⟨x20, xs21, rfl, hl21⟩ := Reg.len_succ hl20
                  obtain ⟨x21, xs22, rfl, hl22⟩ := Reg.len_succ hl21
                  obtain ⟨x22, xs23, rfl, hl23⟩ := Reg.len_succ hl22
                  obtain ⟨x23, xs24, rfl, hl24⟩ := Reg.len_succ hl23
                  obtain ⟨x24, xs25, rfl, hl25⟩ := Reg.len_succ hl24
                  obtain ⟨x25, xs26, rfl, hl26⟩ := Reg.len_succ hl25
                  obtain ⟨x26, xs27, rfl, hl27⟩ := Reg.len_succ hl26
                  obtain ⟨x27, xs28, rfl, hl28⟩ := Reg.len_succ hl27
                  obtain ⟨x28, xs29, rfl, hl29⟩ := Reg.len_succ hl28
                  obtain ⟨x29, xs30, rfl, hl30⟩ := Reg.len_succ hl29
                  obtain ⟨x30, xs31, rfl, hl31⟩ := Reg.len_succ hl30
                  obtain ⟨x31, xs32, rfl, hl32⟩ := Reg.len_succ hl31
                  obtain ⟨x32, xs33, rfl, hl33⟩ := Reg.len_succ hl32
                  obtain ⟨x33, xs34, rfl, hl34⟩ := Reg.len_succ hl33
                  obtain ⟨x34, xs35, rfl, hl35⟩ := Reg.len_succ hl34
                  obtain ⟨x35, xs36, rfl, hl36⟩ := Reg.len_succ hl35
                  obtain ⟨x36, xs37, rfl, hl37⟩ := Reg.len_succ hl36
                  obtain ⟨x37, xs38, rfl, hl38⟩ := Reg.len_succ hl37
                  obtain ⟨x38, xs39, rfl, hl39⟩ := Reg.len_succ hl38
                  obtain ⟨x39, xs40, rfl, hl40⟩ := Reg.len_succ hl39
                  obtain rfl := List.eq_nil_of_length_eq_zero hl40
                  clear hl0_ hl1 hl2 hl3 hl4 hl5 hl6 hl7 hl8 hl9 hl10 hl11 hl12 hl13 hl14 hl15 hl16 hl17 hl18 hl19 hl20 hl21 hl22 hl23 hl24 hl25 hl26 hl27 hl28 hl29 hl30 hl31 hl32 hl33 hl34 hl35 hl36 hl37 hl38 hl39 hl40
                  obtain ⟨hq0, hq1, hq2, hq3, hq4, hq5, hq6, hq7, hq8, hq9, hq10, hq11, hq12, hq13, hq14, hq15, hq16, hq17, hq18, hq19, hq20, hq21, hq22, hq23, hq24, hq25, hq26, hq27, hq28, hq29, hq30, hq31, hq32, hq33, hq34, hq35, hq36, hq37, hq38, hq39, -⟩ := hf
                  obtain rfl : x0 = _ := hq0
                  obtain rfl : x1 = _ := hq1
                  obtain rfl : x2 = _ := hq2
                  obtain rfl : x3 = _ := hq3
                  obtain rfl : x4 = _ := hq4
                  obtain rfl : x5 = _ := hq5
                  obtain rfl : x6 = _ := hq6
                  obtain rfl : x7 = _ := hq7
                  obtain rfl : x8 = _ := hq8
                  obtain rfl : x9 = _ := hq9
                  obtain rfl : x10 = _ := hq10
                  obtain rfl : x11 = _ := hq11
                  obtain rfl : x12 = _ := hq12
                  obtain rfl : x13 = _ := hq13
                  obtain rfl : x14 = _ := hq14
                  obtain rfl : x15 = _ := hq15
                  obtain rfl : x16 = _ := hq16
                  obtain rfl : x17 = _ := hq17
                  obtain rfl : x18 = _ := hq18
                  obtain rfl : x19 = _ := hq19
                  obtain rfl : x20 = _ := hq20
                  obtain rfl : x21 = _ := hq21
                  obtain rfl : x22 = _ := hq22
                  obtain rfl : x23 = _ := hq23
                  obtain rfl : x24 = _ := hq24
                  obtain rfl : x25 = _ := hq25
                  obtain rfl : x26 = _ := hq26
                  obtain rfl : x27 = _ := hq27
                  obtain rfl : x28 = _ := hq28
                  obtain rfl : x29 = _ := hq29
                  obtain rfl : x30 = _ := hq30
                  obtain rfl : x31 = _ := hq31
                  obtain rfl : x32 = _ := hq32
                  obtain rfl : x33 = _ := hq33
                  obtain rfl : x34 = _ := hq34
                  obtain rfl : x35 = _ := hq35
                  obtain rfl : x36 = _ := hq36
                  obtain rfl : x37 = _ := hq37
                  obtain rfl : x38 = _ := hq38
                  obtain rfl : x39 = _ := hq39
                  simp only [Reg.putL, Act.put, List.setIfInBounds_toArray, List.set_cons_succ, List.set_cons_zero]
                  obtain rfl := hG.out
                  go_wp2_with (fail)
                  go_roundg k1
                  case measure => omega
                  case rel => exact ⟨k + 1, by first | (simp; done) | (simp; unfold wrap64; omega), ⟨by omega⟩, HBD⟩
          · have hlt1 : decide ((k : Int) + 1 < (m : Int)) = false := decide_eq_false (by omega)
            have hlt2 : decide (k + 1 < m) = false := decide_eq_false hlt
            go_wp2_with (fail)
            have HSR := Aside0.mk (HS5.out.below HB6.out)
            have hvals : ∀ x ∈ l, checkC x.f0 = 0 ∧ 0 ≤ x.f1 ∧ x.f1 ≤ 1000000000 := fun x hx => by
              obtain ⟨h1, h2, h3, _⟩ := HSR.out.inv.vals x (HSR.out.inv.perm.mem_iff.1 hx)
              exact ⟨h1, h2, by omega⟩
            have hll : l.length ≤ 32 := by rw [HSR.out.inv.perm.length_eq]; exact HSR.out.inv.len
            refine (take_any g v l cm0 lo0 1073741824 1073741824 W0 wr HSR.out.q HSR.out.low HT.out (fun x hx => (hvals x hx).1) (by omega) (fun x hx => (hvals x hx).2) (by omega)).mono ?_
            rintro e w7 ⟨v7, v8, l2, rfl, hp, hso, hr7, hq8, hx⟩
            have e2 := (HSR.out.inv.sorted hp hso).symm
            subst e2
            have htk := takeL_all 1073741824 l' (fun x hx => ⟨(hvals x (HSR.out.inv.perm.mem_iff.2 hx)).1, (hvals x (HSR.out.inv.perm.mem_iff.2 hx)).2⟩) 1073741824 (by have := HSR.out.inv.len; omega)
            rw [htk] at hr7
            obtain ⟨A3, c3, h3, hc3, hC3⟩ := Kd.R_reads hr7
            rw [List.length_map, ← HM.out] at h3 hC3
            subst h3
            have HC3 := Aside0.mk hC3
            have HR7 := Aside0.mk (show Kd.R k47 47 w7 wL.heap.size (fun _ => True) (.slice A2 m c2) l' from Kd.R_mono (Kd.R_step (Kd.R_bound (Kd.R_below HR2.out HB6.out)) (fun k hk hlt => hx.keep.2 k hlt (by have h1 := HLT.out.1; have h2 := hk.2.1; omega) (fun e => by have h1 := HLT.out.2 k e.symm; have h2 := hk.2.1; omega))) (fun _ _ => trivial))
            have HB7 := Aside0.mk (hx.below HSR.out.q HSR.out.low)
            clear hp hso hr7 hq8 hx htk hvals hll hc3 hC3 HSR HS5 HB6 HR2
            go_wp2_with (fail)
            go_loopg [9] (m + 1) (fun kq v9 w8 => ∃ (i : Nat), v9 = .int .i64 (i : Int) ∧ Aside0 (i ≤ m ∧ i + kq = m + 1) ∧ Aside0 (Below w7.heap.size w7 w8))
            case atStart => exact ⟨0, rfl, ⟨by omega⟩, ⟨Below.refl _ _⟩⟩
            case round =>
              obtain ⟨i, rfl, HJ, HB8⟩ := hrel
              obtain ⟨hi0, hik⟩ := HJ.out
              by_cases hlt : i < m
              · cases gk with
                | zero => exact absurd hik (by omega)
                | succ k1 =>
                  have hlt1 : decide ((i : Int) < (m : Int)) = true := decide_eq_true (by omega)
                  have hlt2 : decide (i < m) = true := decide_eq_true hlt
                  have hge1 : decide ((i : Int) ≥ (m : Int)) = false := decide_eq_false (by omega)
                  have hge2 : decide ((m : Int) ≤ (i : Int)) = false := decide_eq_false (by omega)
                  have hge3 : decide (m ≤ i) = false := decide_eq_false (by omega)
                  obtain ⟨wd, hwd⟩ : ∃ wd, wd = wr.drew := ⟨_, rfl⟩
                  have HWD := Aside0.mk hwd
                  have hBd : Below w7.heap.size w7 wd := by rw [hwd]; exact HB8.out.drew
                  have HBD := Aside0.mk hBd
                  obtain ⟨A2', c2', h2', hc2', hC2'⟩ := Kd.R_reads (Kd.R_below HR7.out hBd)
                  obtain ⟨rfl, hmm, rfl⟩ : A2 = A2' ∧ m = l'.length ∧ c2 = c2' := by simpa using h2'
                  obtain ⟨ad, hA, f0, f1, f2, f3, f4, f5, f6⟩ := at_T47 hC2' (i : Int) (by omega) (by omega)
                  subst hA
                  obtain ⟨ad3, hA3, g0, g1, g2, g3, g4⟩ := at_T27 (Kd.C_below HC3.out hBd) (i : Int) (by omega) (by omega)
                  subst hA3
                  rw [Int.toNat_natCast] at f0 f1 f2 f3 f4 f5 f6 g0 g1 g2 g3 g4
                  rw [rd27_map l' i (by omega)] at g0 g1 g2 g3 g4
                  obtain ⟨x, hx⟩ : ∃ x, x = rd_T47 l' (i : Int) := ⟨_, rfl⟩
                  rw [← hx] at f0 f1 f2 f3 f4 f5 f6 g0 g1 g2 g3 g4
                  clear hx h2' hC2' hwd hBd hmm hc2'
                  go_wp2_with (fail)
                  refine Reg.region_list hmix [some 88, some 89, some 90, some 91, some 92, some 93, some 94, some 95, some 96, some 97, some 98, some 99, some 100, some 101, some 102, some 103] [[], [], [1], [0, 2], [3], [4], [4], [5, 6, 4], [7, 4], [4], [4], [9, 10, 4], [11, 4], [12, 4], [8, 13, 4], [4, 14]] (fun w => Aside0 (w = wd)) (fun w w' => Aside0 (w' = w)) [(fun v w => v = (.int .i64 (i : Int) : Value)), (fun v w => v = (.slice (some ad3) m c3 : Value)), (fun v w => v = (.int .i64 (m : Int) : Value)), (fun v w => v = (.bool false : Value)), (fun v w => v = (.bool false : Value)), (fun v w => v = (.slice (some ad3) m c3 : Value)), (fun v w => v = (.int .i64 (i : Int) : Value)), (fun v w => v = (.pointer (some (ad3.add (i * 5))) : Value)), (fun v w => v = (.agg #[.string x.f0.f0, .int .i64 x.f0.f1, .int .u16 x.f0.f2, .string x.f0.f3, .int .i64 x.f0.f4] : Value)), (fun v w => v = (.slice (some ad) m c2 : Value)), (fun v w => v = (.int .i64 (i : Int) : Value)), (fun v w => v = (.pointer (some (ad.add (i * 7))) : Value)), (fun v w => v = (.pointer (some (ad.add (i * 7))) : Value)), (fun v w => v = (.agg #[.string x.f0.f0, .int .i64 x.f0.f1, .int .u16 x.f0.f2, .string x.f0.f3, .int .i64 x.f0.f4] : Value)), (fun v w => v = (.bool false : Value)), (fun v w => v = (.bool false : Value))] rfl (by kernel_rfl) (by kernel_rfl) (fun _ => ⟨rfl⟩) (fun _ _ hr => Reg.mono_cons (fun _ h => h) (Reg.mono_cons (fun _ h => h) (Reg.mono_cons (fun _ h => h) (Reg.mono_cons (fun _ h => h) (Reg.mono_cons (fun _ h => h) (Reg.mono_cons (fun _ h => h) (Reg.mono_cons (fun _ h => h) (Reg.mono_cons (fun _ h => h) (Reg.mono_cons (fun _ h => h) (Reg.mono_cons (fun _ h => h) (Reg.mono_cons (fun _ h => h) (Reg.mono_cons (fun _ h => h) (Reg.mono_cons (fun _ h => h) (Reg.mono_cons (fun _ h => h) (Reg.mono_cons (fun _ h => h) (Reg.mono_cons (fun _ h => h) (Reg.mono_nil))))))))))))))))) (⟨HWD.out.symm⟩) ?hs ?he
                  case hs =>
                    intro xs0 xs hx0 hl0_ wr hG
                    clear hx0
                    obtain ⟨x0, xs1, rfl, hl1⟩ := Reg.len_succ hl0_
                    obtain ⟨x1, xs2, rfl, hl2⟩ := Reg.len_succ hl1
                    obtain ⟨x2, xs3, rfl, hl3⟩ := Reg.len_succ hl2
                    obtain ⟨x3, xs4, rfl, hl4⟩ := Reg.len_succ hl3
                    obtain ⟨x4, xs5, rfl, hl5⟩ := Reg.len_succ hl4
                    obtain ⟨x5, xs6, rfl, hl6⟩ := Reg.len_succ hl5
                    obtain ⟨x6, xs7, rfl, hl7⟩ := Reg.len_succ hl6
                    obtain ⟨x7, xs8, rfl, hl8⟩ := Reg.len_succ hl7
                    obtain ⟨x8, xs9, rfl, hl9⟩ := Reg.len_succ hl8
                    obtain ⟨x9, xs10, rfl, hl10⟩ := Reg.len_succ hl9
                    obtain ⟨x10, xs11, rfl, hl11⟩ := Reg.len_succ hl10
                    obtain ⟨x11, xs12, rfl, hl12⟩ := Reg.len_succ hl11
                    obtain ⟨x12, xs13, rfl, hl13⟩ := Reg.len_succ hl12
                    obtain ⟨x13, xs14, rfl, hl14⟩ := Reg.len_succ hl13
                    obtain ⟨x14, xs15, rfl, hl15⟩ := Reg.len_succ hl14
                    obtain ⟨x15, xs16, rfl, hl16⟩ := Reg.len_succ hl15
                    obtain rfl := List.eq_nil_of_length_eq_zero hl16
                    clear hl0_ hl1 hl2 hl3 hl4 hl5 hl6 hl7 hl8 hl9 hl10 hl11 hl12 hl13 hl14 hl15 hl16
                    simp only [Reg.putL, Act.put, List.setIfInBounds_toArray, List.set_cons_succ, List.set_cons_zero]
                    obtain rfl := hG.out
                    refine ⟨fun hf _ => ?_, ?_⟩
                    · clear hf
                      refine .inl ⟨by rfl, ?_⟩
                      simp only [Reg.ung]
                      go_wp2
                      first | exact ⟨_, rfl, hG, ⟨rfl⟩, rfl⟩ | exact ⟨rfl, hG, ⟨rfl⟩, rfl⟩ | exact ⟨rfl, hG, ⟨rfl⟩⟩ | exact ⟨rfl, ⟨rfl⟩⟩
                    refine ⟨fun hf _ => ?_, ?_⟩
                    · clear hf
                      refine .inl ⟨by rfl, ?_⟩
                      simp only [Reg.ung]
                      go_wp2
                      first | exact ⟨_, rfl, hG, ⟨rfl⟩, rfl⟩ | exact ⟨rfl, hG, ⟨rfl⟩, rfl⟩ | exact ⟨rfl, hG, ⟨rfl⟩⟩ | exact ⟨rfl, ⟨rfl⟩⟩
                    refine ⟨fun hf _ => ?_, ?_⟩
                    · obtain ⟨hq0, -⟩ := hf
                      obtain rfl : x1 = _ := hq0
                      refine .inl ⟨by rfl, ?_⟩
                      simp only [Reg.ung]
                      go_wp2
                      first | exact ⟨_, rfl, hG, ⟨rfl⟩, rfl⟩ | exact ⟨rfl, hG, ⟨rfl⟩, rfl⟩ | exact ⟨rfl, hG, ⟨rfl⟩⟩ | exact ⟨rfl, ⟨rfl⟩⟩
                    refine ⟨fun hf _ => ?_, ?_⟩
                    · obtain ⟨hq0, hq1, -⟩ := hf
                      obtain rfl : x0 = _ := hq0
                      obtain rfl : x2 = _ := hq1
                      refine .inl ⟨by rfl, ?_⟩
                      simp only [Reg.ung]
                      go_wp2
                      first | exact ⟨_, rfl, hG, ⟨rfl⟩, rfl⟩ | exact ⟨rfl, hG, ⟨rfl⟩, rfl⟩ | exact ⟨rfl, hG, ⟨rfl⟩⟩ | exact ⟨rfl, ⟨rfl⟩⟩
                    refine ⟨fun hf _ => ?_, ?_⟩
                    · obtain ⟨hq0, -⟩ := hf
                      obtain rfl : x3 = _ := hq0
                      refine .inl ⟨by rfl, ?_⟩
                      simp only [Reg.ung]
                      go_wp2
                      first | exact ⟨_, rfl, hG, ⟨rfl⟩, rfl⟩ | exact ⟨rfl, hG, ⟨rfl⟩, rfl⟩ | exact ⟨rfl, hG, ⟨rfl⟩⟩ | exact ⟨rfl, ⟨rfl⟩⟩
                    refine ⟨fun hf _ => ?_, ?_⟩
                    · obtain ⟨hq0, -⟩ := hf
                      obtain rfl : x4 = _ := hq0
                      refine .inl ⟨by rfl, ?_⟩
                      simp only [Reg.ung]
                      go_wp2
                      first | exact ⟨_, rfl, hG, ⟨rfl⟩, rfl⟩ | exact ⟨rfl, hG, ⟨rfl⟩, rfl⟩ | exact ⟨rfl, hG, ⟨rfl⟩⟩ | exact ⟨rfl, ⟨rfl⟩⟩
                    refine ⟨fun hf _ => ?_, ?_⟩
                    · obtain ⟨hq0, -⟩ := hf
                      obtain rfl : x4 = _ := hq0
                      refine .inl ⟨by rfl, ?_⟩
                      simp only [Reg.ung]
                      go_wp2
                      first | exact ⟨_, rfl, hG, ⟨rfl⟩, rfl⟩ | exact ⟨rfl, hG, ⟨rfl⟩, rfl⟩ | exact ⟨rfl, hG, ⟨rfl⟩⟩ | exact ⟨rfl, ⟨rfl⟩⟩
                    refine ⟨fun hf _ => ?_, ?_⟩
                    · obtain ⟨hq0, hq1, hq2, -⟩ := hf
                      obtain rfl : x5 = _ := hq0
                      obtain rfl : x6 = _ := hq1
                      obtain rfl : x4 = _ := hq2
                      refine .inl ⟨by rfl, ?_⟩
                      simp only [Reg.ung]
                      go_wp2
                      first | exact ⟨_, rfl, hG, ⟨rfl⟩, rfl⟩ | exact ⟨rfl, hG, ⟨rfl⟩, rfl⟩ | exact ⟨rfl, hG, ⟨rfl⟩⟩ | exact ⟨rfl, ⟨rfl⟩⟩
                    refine ⟨fun hf _ => ?_, ?_⟩
                    · obtain ⟨hq0, hq1, -⟩ := hf
                      obtain rfl : x7 = _ := hq0
                      obtain rfl : x4 = _ := hq1
                      refine .inl ⟨by rfl, ?_⟩
                      simp only [Reg.ung]
                      go_wp2
                      first | exact ⟨_, rfl, hG, ⟨rfl⟩, rfl⟩ | exact ⟨rfl, hG, ⟨rfl⟩, rfl⟩ | exact ⟨rfl, hG, ⟨rfl⟩⟩ | exact ⟨rfl, ⟨rfl⟩⟩
                    refine ⟨fun hf _ => ?_, ?_⟩
                    · obtain ⟨hq0, -⟩ := hf
                      obtain rfl : x4 = _ := hq0
                      refine .inl ⟨by rfl, ?_⟩
                      simp only [Reg.ung]
                      go_wp2
                      first | exact ⟨_, rfl, hG, ⟨rfl⟩, rfl⟩ | exact ⟨rfl, hG, ⟨rfl⟩, rfl⟩ | exact ⟨rfl, hG, ⟨rfl⟩⟩ | exact ⟨rfl, ⟨rfl⟩⟩
                    refine ⟨fun hf _ => ?_, ?_⟩
                    · obtain ⟨hq0, -⟩ := hf
                      obtain rfl : x4 = _ := hq0
                      refine .inl ⟨by rfl, ?_⟩
                      simp only [Reg.ung]
                      go_wp2
                      first | exact ⟨_, rfl, hG, ⟨rfl⟩, rfl⟩ | exact ⟨rfl, hG, ⟨rfl⟩, rfl⟩ | exact ⟨rfl, hG, ⟨rfl⟩⟩ | exact ⟨rfl, ⟨rfl⟩⟩
                    refine ⟨fun hf _ => ?_, ?_⟩
                    · obtain ⟨hq0, hq1, hq2, -⟩ := hf
                      obtain rfl : x9 = _ := hq0
                      obtain rfl : x10 = _ := hq1
                      obtain rfl : x4 = _ := hq2
                      refine .inl ⟨by rfl, ?_⟩
                      simp only [Reg.ung]
                      go_wp2
                      first | exact ⟨_, rfl, hG, ⟨rfl⟩, rfl⟩ | exact ⟨rfl, hG, ⟨rfl⟩, rfl⟩ | exact ⟨rfl, hG, ⟨rfl⟩⟩ | exact ⟨rfl, ⟨rfl⟩⟩
                    refine ⟨fun hf _ => ?_, ?_⟩
                    · obtain ⟨hq0, hq1, -⟩ := hf
                      obtain rfl : x11 = _ := hq0
                      obtain rfl : x4 = _ := hq1
                      refine .inl ⟨by rfl, ?_⟩
                      simp only [Reg.ung]
                      go_wp2
                      first | exact ⟨_, rfl, hG, ⟨rfl⟩, rfl⟩ | exact ⟨rfl, hG, ⟨rfl⟩, rfl⟩ | exact ⟨rfl, hG, ⟨rfl⟩⟩ | exact ⟨rfl, ⟨rfl⟩⟩
                    refine ⟨fun hf _ => ?_, ?_⟩
                    · obtain ⟨hq0, hq1, -⟩ := hf
                      obtain rfl : x12 = _ := hq0
                      obtain rfl : x4 = _ := hq1
                      refine .inl ⟨by rfl, ?_⟩
                      simp only [Reg.ung]
                      go_wp2
                      first | exact ⟨_, rfl, hG, ⟨rfl⟩, rfl⟩ | exact ⟨rfl, hG, ⟨rfl⟩, rfl⟩ | exact ⟨rfl, hG, ⟨rfl⟩⟩ | exact ⟨rfl, ⟨rfl⟩⟩
                    refine ⟨fun hf _ => ?_, ?_⟩
                    · obtain ⟨hq0, hq1, hq2, -⟩ := hf
                      obtain rfl : x8 = _ := hq0
                      obtain rfl : x13 = _ := hq1
                      obtain rfl : x4 = _ := hq2
                      refine .inl ⟨by rfl, ?_⟩
                      simp only [Reg.ung]
                      go_wp2
                      first | exact ⟨_, rfl, hG, ⟨rfl⟩, rfl⟩ | exact ⟨rfl, hG, ⟨rfl⟩, rfl⟩ | exact ⟨rfl, hG, ⟨rfl⟩⟩ | exact ⟨rfl, ⟨rfl⟩⟩
                    refine ⟨fun hf _ => ?_, ?_⟩
                    · obtain ⟨hq0, hq1, -⟩ := hf
                      obtain rfl : x4 = _ := hq0
                      obtain rfl : x14 = _ := hq1
                      refine .inl ⟨by rfl, ?_⟩
                      simp only [Reg.ung]
                      go_wp2
                      first | exact ⟨_, rfl, hG, ⟨rfl⟩, rfl⟩ | exact ⟨rfl, hG, ⟨rfl⟩, rfl⟩ | exact ⟨rfl, hG, ⟨rfl⟩⟩ | exact ⟨rfl, ⟨rfl⟩⟩
                    exact trivial
                  case he =>
                    intro xs hl0_ wr hG hf
                    obtain ⟨x0, xs1, rfl, hl1⟩ := Reg.len_succ hl0_
                    obtain ⟨x1, xs2, rfl, hl2⟩ := Reg.len_succ hl1
                    obtain ⟨x2, xs3, rfl, hl3⟩ := Reg.len_succ hl2
                    obtain ⟨x3, xs4, rfl, hl4⟩ := Reg.len_succ hl3
                    obtain ⟨x4, xs5, rfl, hl5⟩ := Reg.len_succ hl4
                    obtain ⟨x5, xs6, rfl, hl6⟩ := Reg.len_succ hl5
                    obtain ⟨x6, xs7, rfl, hl7⟩ := Reg.len_succ hl6
                    obtain ⟨x7, xs8, rfl, hl8⟩ := Reg.len_succ hl7
                    obtain ⟨x8, xs9, rfl, hl9⟩ := Reg.len_succ hl8
                    obtain ⟨x9, xs10, rfl, hl10⟩ := Reg.len_succ hl9
                    obtain ⟨x10, xs11, rfl, hl11⟩ := Reg.len_succ hl10
                    obtain ⟨x11, xs12, rfl, hl12⟩ := Reg.len_succ hl11
                    obtain ⟨x12, xs13, rfl, hl13⟩ := Reg.len_succ hl12
                    obtain ⟨x13, xs14, rfl, hl14⟩ := Reg.len_succ hl13
                    obtain ⟨x14, xs15, rfl, hl15⟩ := Reg.len_succ hl14
                    obtain ⟨x15, xs16, rfl, hl16⟩ := Reg.len_succ hl15
                    obtain rfl := List.eq_nil_of_length_eq_zero hl16
                    clear hl0_ hl1 hl2 hl3 hl4 hl5 hl6 hl7 hl8 hl9 hl10 hl11 hl12 hl13 hl14 hl15 hl16
                    obtain ⟨hq0, hq1, hq2, hq3, hq4, hq5, hq6, hq7, hq8, hq9, hq10, hq11, hq12, hq13, hq14, hq15, -⟩ := hf
                    obtain rfl : x0 = _ := hq0
                    obtain rfl : x1 = _ := hq1
                    obtain rfl : x2 = _ := hq2
                    obtain rfl : x3 = _ := hq3
                    obtain rfl : x4 = _ := hq4
                    obtain rfl : x5 = _ := hq5
                    obtain rfl : x6 = _ := hq6
                    obtain rfl : x7 = _ := hq7
                    obtain rfl : x8 = _ := hq8
                    obtain rfl : x9 = _ := hq9
                    obtain rfl : x10 = _ := hq10
                    obtain rfl : x11 = _ := hq11
                    obtain rfl : x12 = _ := hq12
                    obtain rfl : x13 = _ := hq13
                    obtain rfl : x14 = _ := hq14
                    obtain rfl : x15 = _ := hq15
                    simp only [Reg.putL, Act.put, List.setIfInBounds_toArray, List.set_cons_succ, List.set_cons_zero]
                    obtain rfl := hG.out
                    clear f0 f1 f2 f3 f4 f5 f6 g0 g1 g2 g3 g4
                    go_wp2_with (fail)
                    go_roundg k1
                    case measure => omega
                    case rel => exact ⟨i + 1, by first | rfl | (simp; done) | (simp; unfold wrap64; omega), ⟨by omega⟩, HBD⟩
              · have hlt1 : decide ((i : Int) < (m : Int)) = false := decide_eq_false (by omega)
                have hlt2 : decide (i < m) = false := decide_eq_false hlt
                go_wp2_with (fail)
                refine (awake_any wr (HT.out.below (below_then HB7.out HB7.out.size HB8.out))).mono ?_
                rintro e w9 ⟨rfl, hb⟩
                have HB9 := Aside0.mk hb
                clear hb
                go_wp2_with (fail)
                go_ret
                exact ⟨rfl, below_then HB7.out HB7.out.size (below_then HB8.out HB8.out.size HB9.out)⟩
end Go.Proofs.YtmifpookhhkgeaaDoor.Q
