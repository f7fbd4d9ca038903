/- QueueOften: the walk. -/
import Derived.Test.YtmifpookhhkgeaaDoorQO
set_option linter.unusedVariables false
set_option linter.unusedSimpArgs false
namespace Go.Proofs.YtmifpookhhkgeaaDoor.Q
open Go.RowKit Go.Lib Go.Proofs.YtmifpookhhkgeaaDoorW.PrintWords Go.Proofs.YtmifpookhhkgeaaDoorW.PrintMore Go.Proofs.YtmifpookhhkgeaaDoor.P Go.Proofs.YtmifpookhhkgeaaDoor.G
set_option maxRecDepth 100000 in
theorem base_len (s : Int) (m : Nat) : (baseL s m).length = m := by simp [baseL]
theorem rd27_get (l : List S27) (j : Nat) (h : j < l.length) : rd_T27 l (j : Int) = l[j] := by simp [rd_T27, h]
theorem conv_o (wr : World) (j : Nat) : (convert 29 9 (.slice (some ⟨wr.heap.size, 0, none⟩) 2 2)).run Tryd.prog (wr.alloc (.cells #[.int .u8 111, .int .u8 (97 + (j : Int))] 5)) = .ok (.string (keyO j)) (wr.alloc (.cells #[.int .u8 111, .int .u8 (97 + (j : Int))] 5)) := by
  have h := run_convert_bytes_arg (P := Tryd.prog) (wr.alloc (.cells #[.int .u8 111, .int .u8 (97 + (j : Int))] 5)) 29 5 Tryd.underlying29 Tryd.underlying5 wr.heap.size 0 2 2 [111, 97 + (j : Int)] rfl (fun i hi => by
    have hk := heap_alloc_new wr (.cells #[.int .u8 111, .int .u8 (97 + (j : Int))] 5)
    have hc := blk_cell hk i
    rw [Nat.zero_add, hc]
    match i, hi with
    | 0, _ => rfl
    | 1, _ => rfl) 9 Tryd.underlying9
  rw [h]
  rfl
set_option maxHeartbeats 4000000 in
set_option maxRecDepth 100000 in
theorem often_any (a b : Int) (ha : 0 ≤ a ∧ a ≤ 255) (hb : 0 ≤ b ∧ b ≤ 255) (w : World) (hT : TabS w) : Calls Tryd.prog 3 #[.int .u8 a, .int .u8 b] w fun e w' => e = .returned (.bool true) ∧ Below w.heap.size w w' := by
  obtain ⟨n, hn⟩ : ∃ n : Nat, 1 + a % 40 = (n : Int) := ⟨(1 + a % 40).toNat, by omega⟩
  obtain ⟨m, hm⟩ : ∃ m : Nat, b % 20 = (m : Int) := ⟨(b % 20).toNat, by omega⟩
  have hm20 : m < 20 := by omega
  have hn40 : n ≤ 40 := by omega
  have HT := Aside0.mk hT
  have HHN := Aside0.mk hn
  clear hT
  go_enter Tryd.func3, Tryd.ntmps3
  go_wp2_with (fail)
  refine (new_any w.heap.size w (Nat.le_refl _)).mono ?_
  rintro e w1 ⟨g, rfl, hq, hg, hbl⟩
  have HQ1 := Aside0.mk hq
  have HB1 := Aside0.mk hbl
  clear hq hg hbl
  go_wp2_with (fail)
  go_loopg [7] (m + 1) (fun kq u7 wr => ∃ (j : Nat) (v : Value), u7 = .int .i64 (j : Int) ∧ Aside0 (j ≤ m ∧ j + kq = m + 1) ∧ Aside0 (Qv w.heap.size wr g v (baseL 0 j) j 0) ∧ Aside0 (Below w.heap.size w wr))
  case atStart => exact ⟨0, _, rfl, ⟨by omega⟩, HQ1, HB1⟩
  case round =>
    obtain ⟨j, v, rfl, HJ, HQ, HB⟩ := hrel
    obtain ⟨hj0, hjk⟩ := HJ.out
    by_cases hlt : j < m
    · cases gk with
      | zero => exact absurd hjk (by omega)
      | succ k1 =>
        have hlt1 : decide ((j : Int) < (m : Int)) = true := decide_eq_true (by omega)
        have hlt2 : decide (j < m) = true := decide_eq_true hlt
        have hcv : (convert 29 9 (.slice (some ⟨wr.heap.size, 0, none⟩) 2 2)).run Tryd.prog (wr.alloc (.cells #[.int .u8 111, .int .u8 (97 + (j : Int))] 5)) = .ok (.string (keyO j)) (wr.alloc (.cells #[.int .u8 111, .int .u8 (97 + (j : Int))] 5)) := conv_o wr j
        go_wp2_with (fail)
        refine (one_any _ _).mono ?_
        rintro e w2 ⟨rfl, hb2⟩
        have hb3 := below_then (below_alloc (Below.refl _ wr) (.cells #[.int .u8 111, .int .u8 (97 + (j : Int))] 5)) (by simp) hb2
        have HQ2 := Aside0.mk (HQ.out.below hb3)
        have HB2 := Aside0.mk (below_then HB.out HB.out.size hb3)
        clear hb2 hb3 HQ HB hcv
        unfold encE
        go_wp2_with (fail)
        refine (push_any g _ (baseL 0 j) j 0 (oneE (keyO j)) w w2 HQ2.out HB2.out (by rw [base_len]; omega) (by omega) (by omega)).mono ?_
        rintro e w3 ⟨rfl, v3, hx, hq⟩
        obtain ⟨hpb, hpl⟩ := pushB_o (show j < 20 by omega)
        rw [hpb, if_pos rfl, if_pos rfl, hpl] at hq
        have HQ3 := Aside0.mk hq
        have HB3 := Aside0.mk (hx.below HQ2.out HB2.out)
        clear hx hq HQ2 HB2
        go_wp2_with (fail)
        go_roundg k1
        case measure => omega
        case rel => exact ⟨j + 1, v3, by simp, ⟨by have := HJ.out; omega⟩, ⟨by have := HQ3.out; simpa using this⟩, HB3⟩
    · have hlt1 : decide ((j : Int) < (m : Int)) = false := decide_eq_false (by omega)
      have hlt2 : decide (j < m) = false := decide_eq_false hlt
      obtain rfl : j = m := by omega
      go_wp2_with (fail)
      refine (one_any _ _).mono ?_
      rintro e w2 ⟨rfl, hb2⟩
      have HQ2 := Aside0.mk (HQ.out.below hb2)
      have HB2 := Aside0.mk (below_then HB.out HB.out.size hb2)
      clear hb2 HQ HB
      unfold encE
      go_wp2_with (fail)
      refine (push_any g _ (baseL 0 j) j 0 ek w w2 HQ2.out HB2.out (by rw [base_len]; omega) (by omega) (by omega)).mono ?_
      rintro e w3 ⟨rfl, v3, hx, hq⟩
      obtain ⟨hpb, hpl⟩ := pushB_k hm20
      rw [hpb] at hq ⊢
      rw [if_pos rfl, if_pos rfl, hpl] at hq
      have HQ3 := Aside0.mk hq
      have HB3 := Aside0.mk (hx.below HQ2.out HB2.out)
      clear hx hq HQ2 HB2 HJ
      go_wp2_with (fail)
      go_loopg [8, 9, 10, 11] (n + 6) (fun kq u8 u9 u10 u11 wr => ∃ (i : Nat) (l : List S47) (v : Value), u8 = .int .i64 ((min i n : Nat) : Int) ∧ u9 = .int .i64 (i : Int) ∧ Aside0 (i ≤ n + 5 ∧ i + kq = n + 6) ∧ Aside0 (l.Perm (stL j n i)) ∧ Aside0 (Qv w.heap.size wr g v l (j + 1) 0) ∧ Aside0 (Below w.heap.size w wr))
      case atStart => exact ⟨0, _, _, by simp, rfl, ⟨by omega⟩, ⟨by unfold stL; rw [if_pos (by omega)]; exact List.Perm.refl _⟩, HQ3, HB3⟩
      case round =>
        obtain ⟨i, l, v, rfl, rfl, HI, HP, HQ, HB⟩ := hrel
        obtain ⟨hi0, hik⟩ := HI.out
        by_cases hlt3 : i < n + 5
        · cases gk with
          | zero => exact absurd hik (by omega)
          | succ k1 =>
            have hlt4 : decide ((i : Int) < (n : Int) + 5) = true := decide_eq_true (by omega)
            have hlt5 : decide (i < n + 5) = true := decide_eq_true hlt3
            have hll : l.length ≤ 20 := by rw [HP.out.length_eq]; exact st_len j n i hm20
            go_wp2_with (fail)
            refine (take_any g _ l (j + 1) 0 1048576 n w wr HQ.out HB.out HT.out (fun x hx => (st_mem hm20 (by omega) (HP.out.mem_iff.1 hx)).1) (by omega) (fun x hx => (st_mem hm20 (by omega) (HP.out.mem_iff.1 hx)).2) (by omega)).mono ?_
            rintro e w4 ⟨v7, v8, l', rfl, hp, hs, hr, hq, hx⟩
            have HQ4 := Aside0.mk hq
            have HB4 := Aside0.mk (hx.below HQ.out HB.out)
            obtain ⟨hp1, hc1, hl1, hl2⟩ := take_st hm20 (hp.trans HP.out)
            have HP1 := Aside0.mk hp1
            obtain ⟨out, hout⟩ : ∃ out, out = (takeL l' 1048576 n).1 := ⟨_, rfl⟩
            rw [← hout] at hr hc1 hl1
            obtain ⟨A, c, hv, hc, hC⟩ := Kd.R_reads hr
            obtain ⟨q, hqn⟩ : ∃ q, q = out.length := ⟨_, rfl⟩
            rw [← hqn] at hv
            subst hv
            have HC := Aside0.mk hC
            have HQN := Aside0.mk hqn
            have HC1 := Aside0.mk hc1
            have HL1 := Aside0.mk hl1
            have hq20 : q ≤ 20 := by rw [hqn]; exact hl1
            clear hp hs hr hq hx hp1 hc1 hl1 hl2 hout hC hqn hc HQ HB
            go_wp2_with (fail)
            go_loopg [8, 11] (q + 1) (fun kq u8 u11 wr2 => ∃ (p : Nat), u8 = .int .i64 ((min i n + (out.take p).countP isK : Nat) : Int) ∧ u11 = .int .i64 (p : Int) ∧ Aside0 (p ≤ q ∧ p + kq = q + 1) ∧ wr2 = w4)
            case atStart => exact ⟨0, by simp, rfl, ⟨by omega⟩, rfl⟩
            case round =>
              obtain ⟨p, rfl, rfl, HPQ, rfl⟩ := hrel
              obtain ⟨hp0, hpk⟩ := HPQ.out
              by_cases hlt6 : p < q
              · cases gk with
                | zero => exact absurd hpk (by omega)
                | succ k2 =>
                  have hlt7 : decide ((p : Int) < (q : Int)) = true := decide_eq_true (by omega)
                  have hlt8 : decide (p < q) = true := decide_eq_true hlt6
                  obtain ⟨ad, hA, f0, _⟩ := at_T27 HC.out (p : Int) (by omega) (by have := HQN.out; omega)
                  subst hA
                  rw [Int.toNat_natCast] at f0
                  obtain ⟨y, hy⟩ : ∃ y, y = rd_T27 out (p : Int) := ⟨_, rfl⟩
                  rw [← hy] at f0
                  rw [rd27_get out p (by have := HQN.out; omega)] at hy
                  have hcnt : (out.take (p + 1)).countP isK = (out.take p).countP isK + (if isK y then 1 else 0) := by
                    rw [List.take_succ_eq_append_getElem (by have := HQN.out; omega), List.countP_append, ← hy, List.countP_singleton]
                  have HCN := Aside0.mk hcnt
                  have hcl : (out.take p).countP isK ≤ 20 := Nat.le_trans (List.countP_le_length) (by rw [List.length_take]; have := HL1.out; omega)
                  clear hcnt hy
                  by_cases hk : y.f0 = ⟨#[107]⟩
                  · have hk1 : decide (y.f0 = ⟨#[107]⟩) = true := decide_eq_true hk
                    have HK := Aside0.mk hk1
                    rw [hk] at f0
                    clear hk hk1
                    go_wp2_with (fail)
                    go_roundg k2
                    case measure => omega
                    case rel => exact ⟨p + 1, by rw [HCN.out, show isK y = true from HK.out, if_pos rfl]; simp only [Value.int.injEq, true_and]; omega, by simp, ⟨by have := HPQ.out; omega⟩, rfl⟩
                  · have hk1 : decide (y.f0 = ⟨#[107]⟩) = false := decide_eq_false hk
                    have hk2 : (y.f0.toList == [107]) = false := beq_eq_false_iff_ne.mpr (fun e => hk (by rw [ByteArray.toList_eq] at e; exact Go.WideShapes.bytes_inj e))
                    have HK := Aside0.mk hk1
                    clear hk
                    go_wp2_with (fail)
                    go_roundg k2
                    case measure => omega
                    case rel => exact ⟨p + 1, by rw [HCN.out, show isK y = false from HK.out]; simp, by simp, ⟨by have := HPQ.out; omega⟩, rfl⟩
              · have hlt7 : decide ((p : Int) < (q : Int)) = false := decide_eq_false (by omega)
                have hlt8 : decide (p < q) = false := decide_eq_false hlt6
                have hfin : min i n + (out.take p).countP isK = min (i + 1) n := by
                  rw [List.take_of_length_le (by have := HQN.out; omega), HC1.out]
                  split <;> omega
                rw [hfin]
                clear hfin
                go_wp2_with (fail)
                go_roundg k1
                case measure => omega
                case rel => exact ⟨i + 1, _, v8, rfl, by simp, ⟨by have := HI.out; omega⟩, HP1, HQ4, HB4⟩
        · have hlt4 : decide ((i : Int) < (n : Int) + 5) = false := decide_eq_false (by omega)
          have hlt5 : decide (i < n + 5) = false := decide_eq_false hlt3
          have hmin : min i n = n := by omega
          rw [hmin]
          have hl0 : l = [] := by have := HP.out; unfold stL at this; rw [if_neg (by omega)] at this; exact this.eq_nil
          subst hl0
          clear hmin
          go_wp2_with (fail)
          refine (len_any _ g _ _ _ _ _ HQ.out).mono ?_
          rintro e w9 ⟨rfl, rfl⟩
          go_wp2_with (fail)
          refine (lost_any _ g _ _ _ _ _ HQ.out).mono ?_
          rintro e w9 ⟨rfl, rfl⟩
          go_wp2_with (fail)
          refine (awake_any _ (HT.out.below HB.out)).mono ?_
          rintro e w9 ⟨rfl, hb9⟩
          have HB9 := Aside0.mk (below_then HB.out HB.out.size hb9)
          clear hb9
          go_wp2_with (fail)
          go_ret
          exact ⟨rfl, HB9.out⟩
end Go.Proofs.YtmifpookhhkgeaaDoor.Q
