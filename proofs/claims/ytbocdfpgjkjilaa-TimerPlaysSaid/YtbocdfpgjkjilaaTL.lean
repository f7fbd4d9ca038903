/- TimerPlays in memory: any calls leave the times, and answer, as the document says. -/
import Derived.Test.YtbocdfpgjkjilaaTK
set_option linter.unusedVariables false
set_option linter.unusedSimpArgs false
namespace Go.Proofs.Ytbocdfpgjkjilaa.T
open Go.RowKit Go.Maps Go.Sort Go.Shelf Go.Proofs.YtbocdfpgjkjilaaW.PrintWords Go.Proofs.Ytbocdfpgjkjilaa.PTimerPlays Go.Proofs.Ytbocdfpgjkjilaa.R Go.Proofs.Ytbocdfpgjkjilaa.Cells

set_option maxHeartbeats 4000000 in
theorem plays_any (A : Option Addr) (c : Nat) (l : List S44) (now : Int) (k : ByteArray) (W0 : World) (hl : Kd.C k44 W0 A l.length l) (hc : l.length ≤ c) (hok : ∀ y ∈ l, ActOk y) (hk : k.size ≤ maxLen) :
    Calls Try.prog 4 #[.slice A l.length c, .int .i64 now, .string k] W0 fun e w' => e = .returned (.bool true) ∧ Below W0.heap.size W0 w' := by
  have HL := Aside0.mk hl
  have HOK := Aside0.mk hok
  clear hl hok
  cases hf : fewB l with
  | false =>
    go_enter Try.func4, Try.ntmps4
    go_wp2_with (fail)
    refine (few_any A c l W0 HL.out hc).mono ?_
    rw [hf]
    rintro e w1 ⟨rfl, hb⟩
    have HB := Aside0.mk hb
    clear hb
    go_wp2_with (fail)
    refine (awake_any w1).mono ?_
    rintro e w2 ⟨rfl, hb⟩
    have HB2 := Aside0.mk (below_then HB.out HB.out.size hb)
    clear hb
    go_wp2_with (fail)
    go_ret
    exact ⟨rfl, HB2.out⟩
  | true =>
    obtain ⟨hlen, hks⟩ := fewB_len hf
    have HKS := Aside0.mk hks
    clear hks
    go_enter Try.func4, Try.ntmps4
    go_wp2_with (fail)
    refine (few_any A c l W0 HL.out hc).mono ?_
    rw [hf]
    rintro e w1 ⟨rfl, hb⟩
    have HB := Aside0.mk hb
    clear hb hf
    go_wp2_with (fail)
    refine (new_any w1).mono ?_
    rintro e w2 ⟨g, b, rfl, ht, hb, hgg, hbb0⟩
    have HT := Aside0.mk ht
    have hbb : W0.heap.size ≤ b := Nat.le_trans HB.out.size hbb0
    have HB2 := Aside0.mk (below_then HB.out HB.out.size hb)
    clear ht hb hgg hbb0 HB
    go_wp2_with (fail)
    have HBK0 := Aside0.mk (blk_new w2 (Obj.cells #[Value.slice none 0 0] 39 (0, 0)))
    have HP0 := Aside0.mk ((pl_nil HT.out).below (below_alloc (Below.refl _ _) (Obj.cells #[Value.slice none 0 0] 39 (0, 0))))
    have HB3 := Aside0.mk (HB2.out.alloc HB2.out.size (Obj.cells #[Value.slice none 0 0] 39 (0, 0)))
    have hbx0 : W0.heap.size ≤ w2.heap.size := HB2.out.size
    obtain ⟨bx, hbxe⟩ : ∃ bx, bx = w2.heap.size := ⟨_, rfl⟩
    obtain ⟨w3, hw3⟩ : ∃ w3, w3 = w2.alloc (Obj.cells #[Value.slice none 0 0] 39 (0, 0)) := ⟨_, rfl⟩
    rw [← hw3] at HBK0 HP0 HB3
    rw [← hbxe] at HBK0 hbx0
    have hbx : W0.heap.size ≤ bx := hbx0
    try rw [← hw3]
    rw [← hbxe]
    clear hbxe hw3 HT HB2 hbx0
    go_loopg [9, 10] (l.length + 1) (fun kq v9 v10 wr => ∃ (x : Int) (A' : Option Addr) (c' : Nat) (L : List S52), v9 = .bool true ∧ v10 = .int .i64 x ∧ Aside0 (0 ≤ x ∧ x ≤ l.length ∧ x + kq = l.length + 1) ∧ Aside0 (Pl wr g b A' c' L) ∧ Aside0 (L.length ≤ x) ∧
      Aside0 (Below W0.heap.size W0 wr) ∧ Aside0 (wr.heap[bx]? = some (.cells #[.slice A' L.length c'] 39 (0, 0))))
    case atStart => exact ⟨0, none, 0, [], rfl, rfl, ⟨by omega⟩, HP0, ⟨by simp⟩, HB3, HBK0⟩
    case round =>
      clear HP0 HB3 HBK0
      obtain ⟨x, A', c', L, rfl, rfl, HI, HP, HLX, HB, HBK⟩ := hrel
      cases gk with
      | zero => exact absurd HI.out (by omega)
      | succ k1 =>
        obtain ⟨hx0, hxn, hxk⟩ := HI.out
        have hlx := HLX.out
        by_cases hlt : x < (l.length : Int)
        · obtain ⟨ad, A4, c4, hA, f0, f1, f2, f3, f4, hc4, hC4⟩ := at_T44 HL.out x hx0 hlt
          subst hA
          have hmem : rd_T44 l x ∈ l := by
            have hj : x.toNat < l.length := by omega
            have e : rd_T44 l x = l[x.toNat] := by simp [rd_T44, hj]
            rw [e]; exact List.getElem_mem hj
          obtain ⟨y, hye⟩ : ∃ y, y = rd_T44 l x := ⟨_, rfl⟩
          rw [← hye] at f0 f1 f2 f3 f4 hc4 hC4 hmem
          have hy := HOK.out y hmem
          have hn4 : y.f4.length ≤ 1000000000 := Nat.le_trans (HKS.out y hmem) (by decide)
          clear hye hmem
          have hltb : decide (x < (l.length : Int)) = true := decide_eq_true hlt
          clear hltb
          obtain ⟨wd, hwd⟩ : ∃ wd, wd = wr.drew := ⟨_, rfl⟩
          have HD := Aside0.mk (show Below wr.heap.size wr wd by rw [hwd]; exact (Below.refl _ _).drew)
          have HWD := Aside0.mk hwd
          clear hwd
          go_wp2_with (fail)
          have HBd := Aside0.mk (below_then HB.out HB.out.size HD.out)
          have hP := HP.out.below HD.out
          have hB := HBd.out
          replace f0 := (hB.cell (World.block_lt_of_cell? W0 _ f0)).trans f0
          replace f1 := (hB.cell (World.block_lt_of_cell? W0 _ f1)).trans f1
          replace f2 := (hB.cell (World.block_lt_of_cell? W0 _ f2)).trans f2
          replace f3 := (hB.cell (World.block_lt_of_cell? W0 _ f3)).trans f3
          replace f4 := (hB.cell (World.block_lt_of_cell? W0 _ f4)).trans f4
          replace hC4 := Kd.C_below hC4 hB
          have hbk := blk_below HBK.out HD.out
          have cz := (blk_cell hbk 0).trans rfl
          have hLL : L.length < 1000000000 := by omega
          have hbne : some bx ≠ some b := fun e => (hP.1.far hbk (by decide)).2 (by injection e with e; exact e.symm)
          have HB := hB
          clear HI HP HLX HBd HBK HD hB
          refine Reg.region_pivot (Γ := (Option Addr) × (Nat) × (List S52)) hmix [some 24, some 25, some 26, some 27, some 28, some 29, some 30, some 23, some 31, some 32, none, some 9] [[], [], [], [], [2, 3], [4], [0, 1, 5], [6], [7], [7], [8, 6, 0, 1, 2, 3, 4, 5, 6, 7, 8], [9, 10, 0, 1, 2, 3, 4, 5, 6, 7, 8, 9, 10]] 6 10 [0, 1, 2, 3, 4, 5] (fun w => w = wd) (fun γ d w => Pl w g b γ.1 γ.2.1 γ.2.2 ∧ γ.2.2.length ≤ L.length + 1 ∧ Below W0.heap.size W0 w ∧ w.heap[bx]? = some (.cells #[bif d then .slice γ.1 γ.2.2.length γ.2.1 else .slice A' L.length c'] 39 (0, 0))) [(fun v => v = (.pointer (some ⟨g, 0, none⟩) : Value)), (fun v => v = (.agg #[.slice A' L.length c'] : Value)), (fun v => v = (.slice (some ad) l.length c : Value)), (fun v => v = (.int .i64 x : Value)), (fun v => v = (.pointer (some (ad.add (x.toNat * 5))) : Value)), (fun v => v = (.agg #[.int .u8 y.f0, .string y.f1, .int .i64 y.f2, .int .i64 y.f3, .slice A4 y.f4.length c4] : Value)), (fun _ => False), (fun _ => False), (fun _ => False), (fun _ => False), (fun _ => False), (fun _ => False)] (fun γ => [(fun v => v = (.pointer (some ⟨g, 0, none⟩) : Value)), (fun v => v = (.agg #[.slice A' L.length c'] : Value)), (fun v => v = (.slice (some ad) l.length c : Value)), (fun v => v = (.int .i64 x : Value)), (fun v => v = (.pointer (some (ad.add (x.toNat * 5))) : Value)), (fun v => v = (.agg #[.int .u8 y.f0, .string y.f1, .int .i64 y.f2, .int .i64 y.f3, .slice A4 y.f4.length c4] : Value)), (fun v => v = (.tuple #[.agg #[.slice γ.1 γ.2.2.length γ.2.1], .bool true] : Value)), (fun v => v = (.tuple #[.agg #[.slice γ.1 γ.2.2.length γ.2.1], .bool true] : Value)), (fun v => v = (.agg #[.slice γ.1 γ.2.2.length γ.2.1] : Value)), (fun v => v = (.bool true : Value)), (fun v => True), (fun v => v = (.bool true : Value))]) rfl (by kernel_rfl) (by kernel_rfl) (fun γ => Reg.imp_cons (fun _ h => h) (Reg.imp_cons (fun _ h => h) (Reg.imp_cons (fun _ h => h) (Reg.imp_cons (fun _ h => h) (Reg.imp_cons (fun _ h => h) (Reg.imp_cons (fun _ h => h) (Reg.imp_cons (fun _ h => h.elim) (Reg.imp_cons (fun _ h => h.elim) (Reg.imp_cons (fun _ h => h.elim) (Reg.imp_cons (fun _ h => h.elim) (Reg.imp_cons (fun _ h => h.elim) (Reg.imp_cons (fun _ h => h.elim) (Reg.imp_nil (γ := True)))))))))))))) (HWD.out.symm) ?hs ?he
          case hs =>
            intro xs0 xs hx0 hl0_
            clear hx0
            obtain ⟨x0, xs1, rfl, hl1⟩ := Reg.len_succ hl0_
            obtain ⟨x1, xs2, rfl, hl2⟩ := Reg.len_succ hl1
            obtain ⟨x2, xs3, rfl, hl3⟩ := Reg.len_succ hl2
            obtain ⟨x3, xs4, rfl, hl4⟩ := Reg.len_succ hl3
            obtain ⟨x4, xs5, rfl, hl5⟩ := Reg.len_succ hl4
            obtain ⟨x5, xs6, rfl, hl6⟩ := Reg.len_succ hl5
            obtain ⟨x6, xs7, rfl, hl7⟩ := Reg.len_succ hl6
            obtain ⟨x7, xs8, rfl, hl8⟩ := Reg.len_succ hl7
            obtain ⟨x8, xs9, rfl, hl9⟩ := Reg.len_succ hl8
            obtain ⟨x9, xs10, rfl, hl10⟩ := Reg.len_succ hl9
            obtain ⟨x10, xs11, rfl, hl11⟩ := Reg.len_succ hl10
            obtain ⟨x11, xs12, rfl, hl12⟩ := Reg.len_succ hl11
            obtain rfl := List.eq_nil_of_length_eq_zero hl12
            clear hl0_ hl1 hl2 hl3 hl4 hl5 hl6 hl7 hl8 hl9 hl10 hl11 hl12
            simp only [Reg.putL, Act.put, List.setIfInBounds_toArray, List.set_cons_succ, List.set_cons_zero]
            refine ⟨fun wr hG hf _ => ?_, ?_⟩
            · skip
              replace hG : wr = wd := hG
              clear hf
              refine .inl ⟨by rfl, ?_⟩
              simp only [Reg.ung]
              subst hG
              go_wp2; exact ⟨_, rfl, rfl, rfl⟩
            refine ⟨fun wr hG hf _ => ?_, ?_⟩
            · skip
              replace hG : wr = wd := hG
              clear hf
              refine .inl ⟨by rfl, ?_⟩
              simp only [Reg.ung]
              subst hG
              go_wp2; exact ⟨_, rfl, rfl, rfl⟩
            refine ⟨fun wr hG hf _ => ?_, ?_⟩
            · skip
              replace hG : wr = wd := hG
              clear hf
              refine .inl ⟨by rfl, ?_⟩
              simp only [Reg.ung]
              subst hG
              go_wp2; exact ⟨_, rfl, rfl, rfl⟩
            refine ⟨fun wr hG hf _ => ?_, ?_⟩
            · skip
              replace hG : wr = wd := hG
              clear hf
              refine .inl ⟨by rfl, ?_⟩
              simp only [Reg.ung]
              subst hG
              go_wp2; exact ⟨_, rfl, rfl, rfl⟩
            refine ⟨fun wr hG hf _ => ?_, ?_⟩
            · skip
              replace hG : wr = wd := hG
              obtain ⟨hq0, hq1, -⟩ := hf
              obtain rfl : x2 = (.slice (some ad) l.length c : Value) := hq0
              obtain rfl : x3 = (.int .i64 x : Value) := hq1
              refine .inl ⟨by rfl, ?_⟩
              simp only [Reg.ung]
              subst hG
              go_wp2; exact ⟨_, rfl, rfl, rfl⟩
            refine ⟨fun wr hG hf _ => ?_, ?_⟩
            · skip
              replace hG : wr = wd := hG
              obtain ⟨hq0, -⟩ := hf
              obtain rfl : x4 = (.pointer (some (ad.add (x.toNat * 5))) : Value) := hq0
              refine .inl ⟨by rfl, ?_⟩
              simp only [Reg.ung]
              subst hG
              go_wp2; exact ⟨_, rfl, rfl, rfl⟩
            refine ⟨fun wr hG hf _ => ?_, ?_⟩
            · skip
              replace hG : wr = wd := hG
              obtain ⟨hq0, hq1, hq2, -⟩ := hf
              obtain rfl : x0 = (.pointer (some ⟨g, 0, none⟩) : Value) := hq0
              obtain rfl : x1 = (.agg #[.slice A' L.length c'] : Value) := hq1
              obtain rfl : x5 = (.agg #[.int .u8 y.f0, .string y.f1, .int .i64 y.f2, .int .i64 y.f3, .slice A4 y.f4.length c4] : Value) := hq2
              refine .inl ⟨by rfl, ?_⟩
              simp only [Reg.ung]
              subst hG
              go_wp2_with ((go_at_call 16; refine (do_any g b A' c' L y A4 c4 _ hP hLL hy.1 hy.2 hC4 hc4 hn4).mono ?_; rintro e w' ⟨A1, c1, L1, rfl, hP1, hg1, hle⟩)); exact ⟨_, rfl, ⟨A1, c1, L1⟩, ⟨hP1, hle, HB.grown hg1 HB.size (fun j hj => by cases hj; exact hbb), blk_grown hbk hg1 hbne⟩, rfl⟩
            refine ⟨fun γ d wr hG hf _ => ?_, ?_⟩
            · skip
              obtain ⟨A1, c1, L1⟩ := γ
              replace hG : Pl wr g b A1 c1 L1 ∧ L1.length ≤ L.length + 1 ∧ Below W0.heap.size W0 wr ∧ wr.heap[bx]? = some (.cells #[bif d then .slice A1 L1.length c1 else .slice A' L.length c'] 39 (0, 0)) := hG
              obtain ⟨hq0, -⟩ := hf
              obtain rfl : x6 = (.tuple #[.agg #[.slice A1 L1.length c1], .bool true] : Value) := hq0
              refine .inl ⟨by rfl, ?_⟩
              simp only [Reg.ung]
              go_wp2
              exact ⟨_, rfl, by simpa using hG, rfl⟩
            refine ⟨fun γ d wr hG hf _ => ?_, ?_⟩
            · skip
              obtain ⟨A1, c1, L1⟩ := γ
              replace hG : Pl wr g b A1 c1 L1 ∧ L1.length ≤ L.length + 1 ∧ Below W0.heap.size W0 wr ∧ wr.heap[bx]? = some (.cells #[bif d then .slice A1 L1.length c1 else .slice A' L.length c'] 39 (0, 0)) := hG
              obtain ⟨hq0, -⟩ := hf
              obtain rfl : x7 = (.tuple #[.agg #[.slice A1 L1.length c1], .bool true] : Value) := hq0
              refine .inl ⟨by rfl, ?_⟩
              simp only [Reg.ung]
              go_wp2
              exact ⟨_, rfl, by simpa using hG, rfl⟩
            refine ⟨fun γ d wr hG hf _ => ?_, ?_⟩
            · skip
              obtain ⟨A1, c1, L1⟩ := γ
              replace hG : Pl wr g b A1 c1 L1 ∧ L1.length ≤ L.length + 1 ∧ Below W0.heap.size W0 wr ∧ wr.heap[bx]? = some (.cells #[bif d then .slice A1 L1.length c1 else .slice A' L.length c'] 39 (0, 0)) := hG
              obtain ⟨hq0, -⟩ := hf
              obtain rfl : x7 = (.tuple #[.agg #[.slice A1 L1.length c1], .bool true] : Value) := hq0
              refine .inl ⟨by rfl, ?_⟩
              simp only [Reg.ung]
              go_wp2
              exact ⟨_, rfl, by simpa using hG, rfl⟩
            refine ⟨fun γ d wr hG hf _ => ?_, ?_⟩
            · skip
              obtain ⟨A1, c1, L1⟩ := γ
              replace hG : Pl wr g b A1 c1 L1 ∧ L1.length ≤ L.length + 1 ∧ Below W0.heap.size W0 wr ∧ wr.heap[bx]? = some (.cells #[bif d then .slice A1 L1.length c1 else .slice A' L.length c'] 39 (0, 0)) := hG
              obtain ⟨hq0, -, -, -, -, -, -, -, -, -, -, -⟩ := hf
              obtain rfl : x8 = (.agg #[.slice A1 L1.length c1] : Value) := hq0
              refine .inl ⟨by rfl, ?_⟩
              simp only [Reg.ung]
              obtain ⟨hP1, hle, hB1, hb1⟩ := hG; have cz := (blk_cell hb1 0).trans rfl; have fz := blk_frozen hb1 0; go_wp2; exact ⟨undef, rfl, ⟨hP1.set hb1 _, hle, hB1.setCell hbx _, by simpa using blk_set hb1 0 _⟩, trivial⟩
            refine ⟨fun γ d wr hG hf _ => ?_, ?_⟩
            · skip
              obtain ⟨A1, c1, L1⟩ := γ
              replace hG : Pl wr g b A1 c1 L1 ∧ L1.length ≤ L.length + 1 ∧ Below W0.heap.size W0 wr ∧ wr.heap[bx]? = some (.cells #[bif d then .slice A1 L1.length c1 else .slice A' L.length c'] 39 (0, 0)) := hG
              obtain ⟨hq0, -, -, -, -, -, -, -, -, -, -, -, -, -⟩ := hf
              obtain rfl : x9 = (.bool true : Value) := hq0
              refine .inl ⟨by rfl, ?_⟩
              simp only [Reg.ung]
              go_wp2
              exact ⟨_, rfl, by simpa using hG, rfl⟩
            exact trivial
          case he =>
            intro xs hl0_ γ wr hG hf
            obtain ⟨x0, xs1, rfl, hl1⟩ := Reg.len_succ hl0_
            obtain ⟨x1, xs2, rfl, hl2⟩ := Reg.len_succ hl1
            obtain ⟨x2, xs3, rfl, hl3⟩ := Reg.len_succ hl2
            obtain ⟨x3, xs4, rfl, hl4⟩ := Reg.len_succ hl3
            obtain ⟨x4, xs5, rfl, hl5⟩ := Reg.len_succ hl4
            obtain ⟨x5, xs6, rfl, hl6⟩ := Reg.len_succ hl5
            obtain ⟨x6, xs7, rfl, hl7⟩ := Reg.len_succ hl6
            obtain ⟨x7, xs8, rfl, hl8⟩ := Reg.len_succ hl7
            obtain ⟨x8, xs9, rfl, hl9⟩ := Reg.len_succ hl8
            obtain ⟨x9, xs10, rfl, hl10⟩ := Reg.len_succ hl9
            obtain ⟨x10, xs11, rfl, hl11⟩ := Reg.len_succ hl10
            obtain ⟨x11, xs12, rfl, hl12⟩ := Reg.len_succ hl11
            obtain rfl := List.eq_nil_of_length_eq_zero hl12
            clear hl0_ hl1 hl2 hl3 hl4 hl5 hl6 hl7 hl8 hl9 hl10 hl11 hl12
            obtain ⟨A1, c1, L1⟩ := γ
            replace hG : Pl wr g b A1 c1 L1 ∧ L1.length ≤ L.length + 1 ∧ Below W0.heap.size W0 wr ∧ wr.heap[bx]? = some (.cells #[bif true then .slice A1 L1.length c1 else .slice A' L.length c'] 39 (0, 0)) := hG
            obtain ⟨hq0, hq1, hq2, hq3, hq4, hq5, hq6, hq7, hq8, hq9, hq10, hq11, -⟩ := hf
            obtain rfl : x0 = (.pointer (some ⟨g, 0, none⟩) : Value) := hq0
            obtain rfl : x1 = (.agg #[.slice A' L.length c'] : Value) := hq1
            obtain rfl : x2 = (.slice (some ad) l.length c : Value) := hq2
            obtain rfl : x3 = (.int .i64 x : Value) := hq3
            obtain rfl : x4 = (.pointer (some (ad.add (x.toNat * 5))) : Value) := hq4
            obtain rfl : x5 = (.agg #[.int .u8 y.f0, .string y.f1, .int .i64 y.f2, .int .i64 y.f3, .slice A4 y.f4.length c4] : Value) := hq5
            obtain rfl : x6 = (.tuple #[.agg #[.slice A1 L1.length c1], .bool true] : Value) := hq6
            obtain rfl : x7 = (.tuple #[.agg #[.slice A1 L1.length c1], .bool true] : Value) := hq7
            obtain rfl : x8 = (.agg #[.slice A1 L1.length c1] : Value) := hq8
            obtain rfl : x9 = (.bool true : Value) := hq9
            replace hq10 : True := hq10
            obtain rfl : x11 = (.bool true : Value) := hq11
            simp only [Reg.putL, Act.put, List.setIfInBounds_toArray, List.set_cons_succ, List.set_cons_zero]
            simp only [cond_true] at hG; obtain ⟨hP1, hle, hB1, hb1⟩ := hG
            obtain ⟨HP2, HLE2, HB2, HBK2⟩ : Aside0 (Pl wr g b A1 c1 L1) ∧ Aside0 (L1.length ≤ L.length + 1) ∧ Aside0 (Below W0.heap.size W0 wr) ∧ Aside0 (wr.heap[bx]? = some (.cells #[.slice A1 L1.length c1] 39 (0, 0))) := ⟨⟨hP1⟩, ⟨hle⟩, ⟨hB1⟩, ⟨hb1⟩⟩
            have cz1 := (blk_cell HBK2.out 0).trans rfl
            clear hP1 hle hB1 hb1
            go_wp2_with (fail)
            refine (same_any g b A1 c1 L1 now k wr HP2.out (by have := HLE2.out; omega) hk).mono ?_
            rintro e w5 ⟨rfl, hb⟩
            have HB5 := Aside0.mk (below_then HB2.out HB2.out.size hb)
            have HP5 := Aside0.mk (HP2.out.below hb)
            have HBK5 := Aside0.mk (blk_below HBK2.out hb)
            clear hb
            go_wp2_with (fail)
            go_roundg k1
            case measure => omega
            case rel => exact ⟨x + 1, A1, c1, L1, rfl, rfl, ⟨by omega⟩, HP5, ⟨by have := HLE2.out; omega⟩, HB5, HBK5⟩
        · have hcb : decide (x < (l.length : Int)) = false := decide_eq_false hlt
          clear HI hx0 hxn hxk hlt hlx
          go_wp2_with (fail)
          refine (awake_any wr).mono ?_
          rintro e w5 ⟨rfl, hb⟩
          have HB5 := Aside0.mk (below_then HB.out HB.out.size hb)
          clear hb
          go_wp2_with (fail)
          go_ret
          exact ⟨rfl, HB5.out⟩
end Go.Proofs.Ytbocdfpgjkjilaa.T
