/- TimerForks in memory: a fork is as the timers are, and what becomes of one changes nothing of the other; timers that are not there have none. -/
import Derived.Test.YtbocdfpgjkjilaaTK
import Derived.Test.YtbocdfpgjkjilaaReg4
set_option linter.unusedVariables false
set_option linter.unusedSimpArgs false
namespace Go.Proofs.Ytbocdfpgjkjilaa.T
open Go.RowKit Go.Maps Go.Sort Go.Shelf Go.Proofs.YtbocdfpgjkjilaaW.PrintWords Go.Proofs.Ytbocdfpgjkjilaa.PTimerPlays Go.Proofs.Ytbocdfpgjkjilaa.R Go.Proofs.Ytbocdfpgjkjilaa.Cells

theorem Pl.other {w w' : World} {g b f bf c : Nat} {A : Option Addr} {L L2 : List S52} (h : Pl w g b A c L) (hf : Tm w f bf L2) (hne : b ≠ bf) (hg : w.grownBy w' (some bf)) : Pl w' g b A c L := by
  obtain ⟨hT, hC, hcap, hS, hTy, hN⟩ := h
  obtain ⟨es, clock, hm⟩ := hf.map
  refine ⟨hT.kept hg (fun e => ?_) (fun e => hne (by injection e)), stays52.C (hf.stays hg) hC, hcap, hS, hf.ty hg hTy, hN⟩
  injection e with e
  have := hT.1
  rw [e, hm] at this
  cases this

set_option maxRecDepth 100000 in
set_option maxHeartbeats 8000000 in
theorem forks_any (A : Option Addr) (c : Nat) (l : List S44) (B : Option Addr) (cm : Nat) (m : List S44) (W0 : World) (hl : Kd.C k44 W0 A l.length l) (hc : l.length ≤ c) (hok : ∀ y ∈ l, ActOk y) (hm : Kd.C k44 W0 B m.length m) (hcm : m.length ≤ cm) (hok2 : ∀ y ∈ m, ActOk y) :
    Calls Try.prog 6 #[.slice A l.length c, .slice B m.length cm] W0 fun e w' => e = .returned (.bool true) ∧ Below W0.heap.size W0 w' := by
  have HL := Aside0.mk hl
  have HOK := Aside0.mk hok
  have HM := Aside0.mk hm
  have HOK2 := Aside0.mk hok2
  clear hl hok hm hok2
  cases hf : fewB l with
  | false =>
    go_enter Try.func6, Try.ntmps6
    go_wp2_with (fail)
    refine (few_any A c l W0 HL.out hc).mono ?_
    rw [hf]
    rintro e w1 ⟨rfl, hb⟩
    have HB := Aside0.mk hb
    clear hb
    go_wp2_with (fail)
    refine (awake_any w1).mono ?_
    rintro e w2 ⟨rfl, hb⟩
    have HB2 := Aside0.mk (below_then HB.out HB.out.size hb)
    clear hb
    go_wp2_with (fail)
    go_ret
    exact ⟨rfl, HB2.out⟩
  | true =>
    obtain ⟨hlen, hks⟩ := fewB_len hf
    have HKS := Aside0.mk hks
    clear hks
    cases hg : fewB m with
    | false =>
      go_enter Try.func6, Try.ntmps6
      go_wp2_with (fail)
      refine (few_any A c l W0 HL.out hc).mono ?_
      rw [hf]
      rintro e w1 ⟨rfl, hb⟩
      have HB := Aside0.mk hb
      clear hb
      go_wp2_with (fail)
      refine (few_any B cm m w1 (Kd.C_below HM.out HB.out) hcm).mono ?_
      rw [hg]
      rintro e w1' ⟨rfl, hb⟩
      have HB' := Aside0.mk (below_then HB.out HB.out.size hb)
      clear hb HB
      obtain ⟨w1, hw1⟩ : ∃ w, w = w1' := ⟨_, rfl⟩
      rw [← hw1] at HB' ⊢
      clear hw1
      have HB := HB'
      clear HB'
      go_wp2_with (fail)
      refine (awake_any w1).mono ?_
      rintro e w2 ⟨rfl, hb⟩
      have HB2 := Aside0.mk (below_then HB.out HB.out.size hb)
      clear hb
      go_wp2_with (fail)
      go_ret
      exact ⟨rfl, HB2.out⟩
    | true =>
      obtain ⟨hlen2, hks2⟩ := fewB_len hg
      have HKS2 := Aside0.mk hks2
      clear hks2
      go_enter Try.func6, Try.ntmps6
      go_wp2_with (fail)
      refine (few_any A c l W0 HL.out hc).mono ?_
      rw [hf]
      rintro e w1 ⟨rfl, hb⟩
      have HB := Aside0.mk hb
      clear hb
      go_wp2_with (fail)
      refine (few_any B cm m w1 (Kd.C_below HM.out HB.out) hcm).mono ?_
      rw [hg]
      rintro e w1' ⟨rfl, hb⟩
      have HB' := Aside0.mk (below_then HB.out HB.out.size hb)
      clear hb HB
      obtain ⟨w1, hw1⟩ : ∃ w, w = w1' := ⟨_, rfl⟩
      rw [← hw1] at HB' ⊢
      clear hw1
      have HB := HB'
      clear HB'
      go_wp2_with (fail)
      clear hf hg
      refine (new_any w1).mono ?_
      rintro e w2 ⟨g, b, rfl, ht, hb, hgg, hbb0⟩
      have HT := Aside0.mk ht
      have hbb : W0.heap.size ≤ b := Nat.le_trans HB.out.size hbb0
      have HB2 := Aside0.mk (below_then HB.out HB.out.size hb)
      clear ht hb hgg hbb0 HB
      go_wp2_with (fail)
      have HBK0 := Aside0.mk (blk_new w2 (Obj.cells #[Value.slice none 0 0] 39 (0, 0)))
      have HP0 := Aside0.mk ((pl_nil HT.out).below (below_alloc (Below.refl _ _) (Obj.cells #[Value.slice none 0 0] 39 (0, 0))))
      have HB3 := Aside0.mk (HB2.out.alloc HB2.out.size (Obj.cells #[Value.slice none 0 0] 39 (0, 0)))
      have hbx0 : W0.heap.size ≤ w2.heap.size := HB2.out.size
      obtain ⟨bx, hbxe⟩ : ∃ bx, bx = w2.heap.size := ⟨_, rfl⟩
      obtain ⟨w3, hw3⟩ : ∃ w3, w3 = w2.alloc (Obj.cells #[Value.slice none 0 0] 39 (0, 0)) := ⟨_, rfl⟩
      rw [← hw3] at HBK0 HP0 HB3
      rw [← hbxe] at HBK0 hbx0
      have hbx : W0.heap.size ≤ bx := hbx0
      try rw [← hw3]
      rw [← hbxe]
      clear hbxe hw3 HT HB2 hbx0
      go_loopg [7] (l.length + 1) (fun kq v7 wr => ∃ (x : Int) (A' : Option Addr) (c' : Nat) (L : List S52), v7 = .int .i64 x ∧ Aside0 (0 ≤ x ∧ x ≤ l.length ∧ x + kq = l.length + 1) ∧ Aside0 (Pl wr g b A' c' L) ∧ Aside0 (L.length ≤ x) ∧
        Aside0 (Below W0.heap.size W0 wr) ∧ Aside0 (wr.heap[bx]? = some (.cells #[.slice A' L.length c'] 39 (0, 0))))
      case atStart => exact ⟨0, none, 0, [], rfl, ⟨by omega⟩, HP0, ⟨by simp⟩, HB3, HBK0⟩
      case round =>
        clear HP0 HB3 HBK0
        obtain ⟨x, A', c', L, rfl, HI, HP, HLX, HB, HBK⟩ := hrel
        cases gk with
        | zero => exact absurd HI.out (by omega)
        | succ k1 =>
          obtain ⟨hx0, hxn, hxk⟩ := HI.out
          have hlx := HLX.out
          by_cases hlt : x < (l.length : Int)
          · skip
            obtain ⟨ad, A4, c4, hA, f0, f1, f2, f3, f4, hc4, hC4⟩ := at_T44 HL.out x hx0 hlt
            subst hA
            have hmem : rd_T44 l x ∈ l := by
              have hj : x.toNat < l.length := by omega
              have e : rd_T44 l x = l[x.toNat] := by simp [rd_T44, hj]
              rw [e]; exact List.getElem_mem hj
            obtain ⟨y, hye⟩ : ∃ y, y = rd_T44 l x := ⟨_, rfl⟩
            rw [← hye] at f0 f1 f2 f3 f4 hc4 hC4 hmem
            have hy := HOK.out y hmem
            have hn4 : y.f4.length ≤ 1000000000 := Nat.le_trans (HKS.out y hmem) (by decide)
            clear hye hmem
            obtain ⟨wd, hwd⟩ : ∃ wd, wd = wr.drew := ⟨_, rfl⟩
            have HD := Aside0.mk (show Below wr.heap.size wr wd by rw [hwd]; exact (Below.refl _ _).drew)
            have HWD := Aside0.mk hwd
            clear hwd
            go_wp2_with (fail)
            have HBd := Aside0.mk (below_then HB.out HB.out.size HD.out)
            have hP := HP.out.below HD.out
            have hB := HBd.out
            replace f0 := (hB.cell (World.block_lt_of_cell? W0 _ f0)).trans f0
            replace f1 := (hB.cell (World.block_lt_of_cell? W0 _ f1)).trans f1
            replace f2 := (hB.cell (World.block_lt_of_cell? W0 _ f2)).trans f2
            replace f3 := (hB.cell (World.block_lt_of_cell? W0 _ f3)).trans f3
            replace f4 := (hB.cell (World.block_lt_of_cell? W0 _ f4)).trans f4
            replace hC4 := Kd.C_below hC4 hB
            have hbk := blk_below HBK.out HD.out
            have cz := (blk_cell hbk 0).trans rfl
            have hLL : L.length < 1000000000 := by omega
            have hbne : some bx ≠ some b := fun e => (hP.1.far hbk (by decide)).2 (by injection e with e; exact e.symm)
            have HB := hB
            clear HI HP HLX HBd HBK HD hB
            refine Reg.region_pivot (Γ := (Option Addr) × (Nat) × (List S52)) hmix [some 34, some 35, some 36, some 37, some 38, some 39, some 40, some 33, some 41, some 42, none] [[], [], [], [], [2, 3], [4], [0, 1, 5], [6], [7], [7], [8, 6, 0, 1, 2, 3, 4, 5, 6, 7, 8]] 6 10 [0, 1, 2, 3, 4, 5] (fun w => w = wd) (fun γ d w => Pl w g b γ.1 γ.2.1 γ.2.2 ∧ γ.2.2.length ≤ L.length + 1 ∧ Below W0.heap.size W0 w ∧ w.heap[bx]? = some (.cells #[bif d then .slice γ.1 γ.2.2.length γ.2.1 else .slice A' L.length c'] 39 (0, 0))) [(fun v => v = (.pointer (some ⟨g, 0, none⟩) : Value)), (fun v => v = (.agg #[.slice A' L.length c'] : Value)), (fun v => v = (.slice (some ad) l.length c : Value)), (fun v => v = (.int .i64 x : Value)), (fun v => v = (.pointer (some (ad.add (x.toNat * 5))) : Value)), (fun v => v = (.agg #[.int .u8 y.f0, .string y.f1, .int .i64 y.f2, .int .i64 y.f3, .slice A4 y.f4.length c4] : Value)), (fun _ => False), (fun _ => False), (fun _ => False), (fun _ => False), (fun _ => False)] (fun γ => [(fun v => v = (.pointer (some ⟨g, 0, none⟩) : Value)), (fun v => v = (.agg #[.slice A' L.length c'] : Value)), (fun v => v = (.slice (some ad) l.length c : Value)), (fun v => v = (.int .i64 x : Value)), (fun v => v = (.pointer (some (ad.add (x.toNat * 5))) : Value)), (fun v => v = (.agg #[.int .u8 y.f0, .string y.f1, .int .i64 y.f2, .int .i64 y.f3, .slice A4 y.f4.length c4] : Value)), (fun v => v = (.tuple #[.agg #[.slice γ.1 γ.2.2.length γ.2.1], .bool true] : Value)), (fun v => v = (.tuple #[.agg #[.slice γ.1 γ.2.2.length γ.2.1], .bool true] : Value)), (fun v => v = (.agg #[.slice γ.1 γ.2.2.length γ.2.1] : Value)), (fun v => v = (.bool true : Value)), (fun v => True)]) rfl (by kernel_rfl) (by kernel_rfl) (fun γ => Reg.imp_cons (fun _ h => h) (Reg.imp_cons (fun _ h => h) (Reg.imp_cons (fun _ h => h) (Reg.imp_cons (fun _ h => h) (Reg.imp_cons (fun _ h => h) (Reg.imp_cons (fun _ h => h) (Reg.imp_cons (fun _ h => h.elim) (Reg.imp_cons (fun _ h => h.elim) (Reg.imp_cons (fun _ h => h.elim) (Reg.imp_cons (fun _ h => h.elim) (Reg.imp_cons (fun _ h => h.elim) (Reg.imp_nil (γ := True))))))))))))) (HWD.out.symm) ?hs ?he
            case hs =>
              intro xs0 xs hx0 hl0_
              clear hx0
              obtain ⟨x0, xs1, rfl, hl1⟩ := Reg.len_succ hl0_
              obtain ⟨x1, xs2, rfl, hl2⟩ := Reg.len_succ hl1
              obtain ⟨x2, xs3, rfl, hl3⟩ := Reg.len_succ hl2
              obtain ⟨x3, xs4, rfl, hl4⟩ := Reg.len_succ hl3
              obtain ⟨x4, xs5, rfl, hl5⟩ := Reg.len_succ hl4
              obtain ⟨x5, xs6, rfl, hl6⟩ := Reg.len_succ hl5
              obtain ⟨x6, xs7, rfl, hl7⟩ := Reg.len_succ hl6
              obtain ⟨x7, xs8, rfl, hl8⟩ := Reg.len_succ hl7
              obtain ⟨x8, xs9, rfl, hl9⟩ := Reg.len_succ hl8
              obtain ⟨x9, xs10, rfl, hl10⟩ := Reg.len_succ hl9
              obtain ⟨x10, xs11, rfl, hl11⟩ := Reg.len_succ hl10
              obtain rfl := List.eq_nil_of_length_eq_zero hl11
              clear hl0_ hl1 hl2 hl3 hl4 hl5 hl6 hl7 hl8 hl9 hl10 hl11
              simp only [Reg.putL, Act.put, List.setIfInBounds_toArray, List.set_cons_succ, List.set_cons_zero]
              refine ⟨fun wr hG hf _ => ?_, ?_⟩
              · skip
                replace hG : wr = wd := hG
                clear hf
                refine .inl ⟨by rfl, ?_⟩
                simp only [Reg.ung]
                subst hG
                go_wp2; exact ⟨_, rfl, rfl, rfl⟩
              refine ⟨fun wr hG hf _ => ?_, ?_⟩
              · skip
                replace hG : wr = wd := hG
                clear hf
                refine .inl ⟨by rfl, ?_⟩
                simp only [Reg.ung]
                subst hG
                go_wp2; exact ⟨_, rfl, rfl, rfl⟩
              refine ⟨fun wr hG hf _ => ?_, ?_⟩
              · skip
                replace hG : wr = wd := hG
                clear hf
                refine .inl ⟨by rfl, ?_⟩
                simp only [Reg.ung]
                subst hG
                go_wp2; exact ⟨_, rfl, rfl, rfl⟩
              refine ⟨fun wr hG hf _ => ?_, ?_⟩
              · skip
                replace hG : wr = wd := hG
                clear hf
                refine .inl ⟨by rfl, ?_⟩
                simp only [Reg.ung]
                subst hG
                go_wp2; exact ⟨_, rfl, rfl, rfl⟩
              refine ⟨fun wr hG hf _ => ?_, ?_⟩
              · skip
                replace hG : wr = wd := hG
                obtain ⟨hq0, hq1, -⟩ := hf
                obtain rfl : x2 = (.slice (some ad) l.length c : Value) := hq0
                obtain rfl : x3 = (.int .i64 x : Value) := hq1
                refine .inl ⟨by rfl, ?_⟩
                simp only [Reg.ung]
                subst hG
                go_wp2; exact ⟨_, rfl, rfl, rfl⟩
              refine ⟨fun wr hG hf _ => ?_, ?_⟩
              · skip
                replace hG : wr = wd := hG
                obtain ⟨hq0, -⟩ := hf
                obtain rfl : x4 = (.pointer (some (ad.add (x.toNat * 5))) : Value) := hq0
                refine .inl ⟨by rfl, ?_⟩
                simp only [Reg.ung]
                subst hG
                go_wp2; exact ⟨_, rfl, rfl, rfl⟩
              refine ⟨fun wr hG hf _ => ?_, ?_⟩
              · skip
                replace hG : wr = wd := hG
                obtain ⟨hq0, hq1, hq2, -⟩ := hf
                obtain rfl : x0 = (.pointer (some ⟨g, 0, none⟩) : Value) := hq0
                obtain rfl : x1 = (.agg #[.slice A' L.length c'] : Value) := hq1
                obtain rfl : x5 = (.agg #[.int .u8 y.f0, .string y.f1, .int .i64 y.f2, .int .i64 y.f3, .slice A4 y.f4.length c4] : Value) := hq2
                refine .inl ⟨by rfl, ?_⟩
                simp only [Reg.ung]
                subst hG
                go_wp2_with ((go_at_call 16; refine (do_any g b A' c' L y A4 c4 _ hP hLL hy.1 hy.2 hC4 hc4 hn4).mono ?_; rintro e w' ⟨A1, c1, L1, rfl, hP1, hg1, hle⟩)); exact ⟨_, rfl, ⟨A1, c1, L1⟩, ⟨hP1, hle, HB.grown hg1 HB.size (fun j hj => by cases hj; exact hbb), blk_grown hbk hg1 hbne⟩, rfl⟩
              refine ⟨fun γ d wr hG hf _ => ?_, ?_⟩
              · skip
                obtain ⟨A1, c1, L1⟩ := γ
                replace hG : Pl wr g b A1 c1 L1 ∧ L1.length ≤ L.length + 1 ∧ Below W0.heap.size W0 wr ∧ wr.heap[bx]? = some (.cells #[bif d then .slice A1 L1.length c1 else .slice A' L.length c'] 39 (0, 0)) := hG
                obtain ⟨hq0, -⟩ := hf
                obtain rfl : x6 = (.tuple #[.agg #[.slice A1 L1.length c1], .bool true] : Value) := hq0
                refine .inl ⟨by rfl, ?_⟩
                simp only [Reg.ung]
                go_wp2
                exact ⟨_, rfl, by simpa using hG, rfl⟩
              refine ⟨fun γ d wr hG hf _ => ?_, ?_⟩
              · skip
                obtain ⟨A1, c1, L1⟩ := γ
                replace hG : Pl wr g b A1 c1 L1 ∧ L1.length ≤ L.length + 1 ∧ Below W0.heap.size W0 wr ∧ wr.heap[bx]? = some (.cells #[bif d then .slice A1 L1.length c1 else .slice A' L.length c'] 39 (0, 0)) := hG
                obtain ⟨hq0, -⟩ := hf
                obtain rfl : x7 = (.tuple #[.agg #[.slice A1 L1.length c1], .bool true] : Value) := hq0
                refine .inl ⟨by rfl, ?_⟩
                simp only [Reg.ung]
                go_wp2
                exact ⟨_, rfl, by simpa using hG, rfl⟩
              refine ⟨fun γ d wr hG hf _ => ?_, ?_⟩
              · skip
                obtain ⟨A1, c1, L1⟩ := γ
                replace hG : Pl wr g b A1 c1 L1 ∧ L1.length ≤ L.length + 1 ∧ Below W0.heap.size W0 wr ∧ wr.heap[bx]? = some (.cells #[bif d then .slice A1 L1.length c1 else .slice A' L.length c'] 39 (0, 0)) := hG
                obtain ⟨hq0, -⟩ := hf
                obtain rfl : x7 = (.tuple #[.agg #[.slice A1 L1.length c1], .bool true] : Value) := hq0
                refine .inl ⟨by rfl, ?_⟩
                simp only [Reg.ung]
                go_wp2
                exact ⟨_, rfl, by simpa using hG, rfl⟩
              refine ⟨fun γ d wr hG hf _ => ?_, ?_⟩
              · skip
                obtain ⟨A1, c1, L1⟩ := γ
                replace hG : Pl wr g b A1 c1 L1 ∧ L1.length ≤ L.length + 1 ∧ Below W0.heap.size W0 wr ∧ wr.heap[bx]? = some (.cells #[bif d then .slice A1 L1.length c1 else .slice A' L.length c'] 39 (0, 0)) := hG
                obtain ⟨hq0, -, -, -, -, -, -, -, -, -, -, -⟩ := hf
                obtain rfl : x8 = (.agg #[.slice A1 L1.length c1] : Value) := hq0
                refine .inl ⟨by rfl, ?_⟩
                simp only [Reg.ung]
                obtain ⟨hP1, hle, hB1, hb1⟩ := hG; have cz := (blk_cell hb1 0).trans rfl; have fz := blk_frozen hb1 0; go_wp2; exact ⟨undef, rfl, ⟨hP1.set hb1 _, hle, hB1.setCell hbx _, by simpa using blk_set hb1 0 _⟩, trivial⟩
              exact trivial
            case he =>
              intro xs hl0_ γ wr hG hf
              obtain ⟨x0, xs1, rfl, hl1⟩ := Reg.len_succ hl0_
              obtain ⟨x1, xs2, rfl, hl2⟩ := Reg.len_succ hl1
              obtain ⟨x2, xs3, rfl, hl3⟩ := Reg.len_succ hl2
              obtain ⟨x3, xs4, rfl, hl4⟩ := Reg.len_succ hl3
              obtain ⟨x4, xs5, rfl, hl5⟩ := Reg.len_succ hl4
              obtain ⟨x5, xs6, rfl, hl6⟩ := Reg.len_succ hl5
              obtain ⟨x6, xs7, rfl, hl7⟩ := Reg.len_succ hl6
              obtain ⟨x7, xs8, rfl, hl8⟩ := Reg.len_succ hl7
              obtain ⟨x8, xs9, rfl, hl9⟩ := Reg.len_succ hl8
              obtain ⟨x9, xs10, rfl, hl10⟩ := Reg.len_succ hl9
              obtain ⟨x10, xs11, rfl, hl11⟩ := Reg.len_succ hl10
              obtain rfl := List.eq_nil_of_length_eq_zero hl11
              clear hl0_ hl1 hl2 hl3 hl4 hl5 hl6 hl7 hl8 hl9 hl10 hl11
              obtain ⟨A1, c1, L1⟩ := γ
              replace hG : Pl wr g b A1 c1 L1 ∧ L1.length ≤ L.length + 1 ∧ Below W0.heap.size W0 wr ∧ wr.heap[bx]? = some (.cells #[bif true then .slice A1 L1.length c1 else .slice A' L.length c'] 39 (0, 0)) := hG
              obtain ⟨hq0, hq1, hq2, hq3, hq4, hq5, hq6, hq7, hq8, hq9, hq10, -⟩ := hf
              obtain rfl : x0 = (.pointer (some ⟨g, 0, none⟩) : Value) := hq0
              obtain rfl : x1 = (.agg #[.slice A' L.length c'] : Value) := hq1
              obtain rfl : x2 = (.slice (some ad) l.length c : Value) := hq2
              obtain rfl : x3 = (.int .i64 x : Value) := hq3
              obtain rfl : x4 = (.pointer (some (ad.add (x.toNat * 5))) : Value) := hq4
              obtain rfl : x5 = (.agg #[.int .u8 y.f0, .string y.f1, .int .i64 y.f2, .int .i64 y.f3, .slice A4 y.f4.length c4] : Value) := hq5
              obtain rfl : x6 = (.tuple #[.agg #[.slice A1 L1.length c1], .bool true] : Value) := hq6
              obtain rfl : x7 = (.tuple #[.agg #[.slice A1 L1.length c1], .bool true] : Value) := hq7
              obtain rfl : x8 = (.agg #[.slice A1 L1.length c1] : Value) := hq8
              obtain rfl : x9 = (.bool true : Value) := hq9
              replace hq10 : True := hq10
              simp only [Reg.putL, Act.put, List.setIfInBounds_toArray, List.set_cons_succ, List.set_cons_zero]
              simp only [cond_true] at hG; obtain ⟨hP1, hle, hB1, hb1⟩ := hG
              obtain ⟨HP2, HLE2, HB2, HBK2⟩ : Aside0 (Pl wr g b A1 c1 L1) ∧ Aside0 (L1.length ≤ L.length + 1) ∧ Aside0 (Below W0.heap.size W0 wr) ∧ Aside0 (wr.heap[bx]? = some (.cells #[.slice A1 L1.length c1] 39 (0, 0))) := ⟨⟨hP1⟩, ⟨hle⟩, ⟨hB1⟩, ⟨hb1⟩⟩
              have cz1 := (blk_cell HBK2.out 0).trans rfl
              clear hP1 hle hB1 hb1
              go_wp2_with (fail)
              go_roundg k1
              case measure => omega
              case rel => exact ⟨x + 1, A1, c1, L1, rfl, ⟨by omega⟩, HP2, ⟨by have := HLE2.out; omega⟩, HB2, HBK2⟩
          · have hcb : decide (x < (l.length : Int)) = false := decide_eq_false hlt
            have hLn : L.length ≤ 150 := by omega
            clear HI hx0 hxn hxk hlt hlx HLX
            obtain ⟨wd, hwd⟩ : ∃ wd, wd = wr.drew := ⟨_, rfl⟩
            have HD := Aside0.mk (show Below wr.heap.size wr wd by rw [hwd]; exact (Below.refl _ _).drew)
            have HWD := Aside0.mk hwd
            clear hwd
            go_wp2_with (fail)
            clear hcb
            have HBd := Aside0.mk (below_then HB.out HB.out.size HD.out)
            have hP := HP.out.below HD.out
            have hB := HBd.out
            have hbk := blk_below HBK.out HD.out
            have hgb := hP.1.gt
            have hbxl := blk_lt hbk
            have HB := hB
            clear HP HBd HBK HD hB
            refine Reg.region_pivot2 (Γ := (Nat) × (Nat) × (Nat)) hmix [some 43, some 44, some 45, some 9, some 8, none, some 10] [[], [0], [], [], [1, 1, 0, 1, 3], [3, 2, 4, 0, 1, 2, 3, 4], [5, 0, 1, 2, 3, 4, 5]] 5 5 [0, 1, 2, 3, 4] (fun w => Below wd.heap.size wd w) (fun γ d w => Tm w γ.1 γ.2.1 L ∧ Pl w g b A' c' L ∧ Below W0.heap.size W0 w ∧ w.heap[bx]? = some (.cells #[.slice A' L.length c'] 39 (0, 0)) ∧ w.heap[γ.2.2]? = some (.cells #[.slice A' L.length c'] 39 (0, 0)) ∧ wd.heap.size ≤ γ.2.2 ∧ wd.heap.size ≤ γ.2.1) (fun w w' => Below w.heap.size w w') [(fun v w => v = (.pointer (some ⟨g, 0, none⟩) : Value)), (fun v w => ∃ f bf, v = .pointer (some ⟨f, 0, none⟩) ∧ Tm w f bf L ∧ wd.heap.size ≤ bf), (fun v w => v = (.agg #[.slice A' L.length c'] : Value)), (fun v w => ∃ b2, v = .pointer (some ⟨b2, 0, none⟩) ∧ w.heap[b2]? = some (.cells #[.slice none 0 0] 39 (0, 0)) ∧ wd.heap.size ≤ b2), (fun v w => ∃ f bf, v = .pointer (some ⟨f, 0, none⟩) ∧ Tm w f bf L ∧ wd.heap.size ≤ bf), (fun _ _ => False), (fun _ _ => False)] (fun γ => [(fun v => v = (.pointer (some ⟨g, 0, none⟩) : Value)), (fun v => True), (fun v => v = (.agg #[.slice A' L.length c'] : Value)), (fun v => v = (.pointer (some ⟨γ.2.2, 0, none⟩) : Value)), (fun v => v = (.pointer (some ⟨γ.1, 0, none⟩) : Value)), (fun v => True), (fun v => v = (.bool true : Value))]) rfl (by kernel_rfl) (by kernel_rfl) (fun _ _ hr => Reg.mono_cons (fun _ h => h) (Reg.mono_cons (fun v ⟨f, bf, e, h1, h2⟩ => ⟨f, bf, e, h1.below hr, h2⟩) (Reg.mono_cons (fun _ h => h) (Reg.mono_cons (fun v ⟨b2, e, h1, h2⟩ => ⟨b2, e, blk_below h1 hr, h2⟩) (Reg.mono_cons (fun v ⟨f, bf, e, h1, h2⟩ => ⟨f, bf, e, h1.below hr, h2⟩) (Reg.mono_cons (fun _ h => h) (Reg.mono_cons (fun _ h => h) (Reg.mono_nil)))))))) (by rw [← HWD.out]; exact Below.refl _ _) ?hs ?he
            case hs =>
              intro xs0 xs hx0 hl0_
              clear hx0
              obtain ⟨x0, xs1, rfl, hl1⟩ := Reg.len_succ hl0_
              obtain ⟨x1, xs2, rfl, hl2⟩ := Reg.len_succ hl1
              obtain ⟨x2, xs3, rfl, hl3⟩ := Reg.len_succ hl2
              obtain ⟨x3, xs4, rfl, hl4⟩ := Reg.len_succ hl3
              obtain ⟨x4, xs5, rfl, hl5⟩ := Reg.len_succ hl4
              obtain ⟨x5, xs6, rfl, hl6⟩ := Reg.len_succ hl5
              obtain ⟨x6, xs7, rfl, hl7⟩ := Reg.len_succ hl6
              obtain rfl := List.eq_nil_of_length_eq_zero hl7
              clear hl0_ hl1 hl2 hl3 hl4 hl5 hl6 hl7
              simp only [Reg.putL, Act.put, List.setIfInBounds_toArray, List.set_cons_succ, List.set_cons_zero]
              refine ⟨fun wr hG hf _ => ?_, ?_⟩
              · skip
                replace hG : Below wd.heap.size wd wr := hG
                clear hf
                refine .inl ⟨by rfl, ?_⟩
                simp only [Reg.ung]
                have hPr := hP.below hG; have hbkr := blk_below hbk hG; have czr := (blk_cell hbkr 0).trans rfl
                go_wp2
                exact ⟨_, rfl, hG, (fun w => Below.refl w.heap.size w) _, rfl⟩
              refine ⟨fun wr hG hf _ => ?_, ?_⟩
              · skip
                replace hG : Below wd.heap.size wd wr := hG
                obtain ⟨hq0, -⟩ := hf
                obtain rfl : x0 = (.pointer (some ⟨g, 0, none⟩) : Value) := hq0
                refine .inl ⟨by rfl, ?_⟩
                simp only [Reg.ung]
                have hPr := hP.below hG; have hbkr := blk_below hbk hG; have czr := (blk_cell hbkr 0).trans rfl
                go_wp2_with ((go_at_call 19; refine (fork_any g b L _ hPr.1).mono ?_; rintro e w5 ⟨f, bf, rfl, htf, htg, hb, hfn, hbfn⟩)); exact ⟨_, rfl, below_then hG hG.size hb, hb, f, bf, rfl, htf, Nat.le_trans hG.size hbfn⟩
              refine ⟨fun wr hG hf _ => ?_, ?_⟩
              · skip
                replace hG : Below wd.heap.size wd wr := hG
                clear hf
                refine .inl ⟨by rfl, ?_⟩
                simp only [Reg.ung]
                have hPr := hP.below hG; have hbkr := blk_below hbk hG; have czr := (blk_cell hbkr 0).trans rfl
                go_wp2
                exact ⟨_, rfl, hG, (fun w => Below.refl w.heap.size w) _, rfl⟩
              refine ⟨fun wr hG hf _ => ?_, ?_⟩
              · skip
                replace hG : Below wd.heap.size wd wr := hG
                clear hf
                refine .inl ⟨by rfl, ?_⟩
                simp only [Reg.ung]
                have hPr := hP.below hG; have hbkr := blk_below hbk hG; have czr := (blk_cell hbkr 0).trans rfl
                go_wp2; exact ⟨_, rfl, hG.alloc hG.size _, below_alloc (Below.refl _ _) _, _, rfl, blk_new wr _, hG.size⟩
              refine ⟨fun wr hG hf _ => ?_, ?_⟩
              · skip
                replace hG : Below wd.heap.size wd wr := hG
                obtain ⟨hq0, -, -, -, -, -⟩ := hf
                replace hq0 : ∃ f bf, x1 = .pointer (some ⟨f, 0, none⟩) ∧ Tm wr f bf L ∧ wd.heap.size ≤ bf := hq0
                refine .inl ⟨by rfl, ?_⟩
                simp only [Reg.ung]
                have hPr := hP.below hG; have hbkr := blk_below hbk hG; have czr := (blk_cell hbkr 0).trans rfl
                obtain ⟨f, bf, rfl, h1, h2⟩ := hq0; go_wp2; exact ⟨_, rfl, hG, Below.refl _ _, f, bf, rfl, h1, h2⟩
              refine ⟨fun wr hG hf _ => ?_, ?_⟩
              · skip
                replace hG : Below wd.heap.size wd wr := hG
                obtain ⟨hq0, hq1, hq2, hq3, -, -, -, -, -⟩ := hf
                replace hq0 : ∃ b2, x3 = .pointer (some ⟨b2, 0, none⟩) ∧ wr.heap[b2]? = some (.cells #[.slice none 0 0] 39 (0, 0)) ∧ wd.heap.size ≤ b2 := hq0
                obtain rfl : x2 = (.agg #[.slice A' L.length c'] : Value) := hq1
                replace hq2 : ∃ f bf, x4 = .pointer (some ⟨f, 0, none⟩) ∧ Tm wr f bf L ∧ wd.heap.size ≤ bf := hq2
                obtain rfl : x0 = (.pointer (some ⟨g, 0, none⟩) : Value) := hq3
                refine .inl ⟨by rfl, ?_⟩
                simp only [Reg.ung]
                have hPr := hP.below hG; have hbkr := blk_below hbk hG; have czr := (blk_cell hbkr 0).trans rfl
                obtain ⟨b2, rfl, hb2, hn2⟩ := hq0; have c2 := (blk_cell hb2 0).trans rfl; have z2 := blk_frozen hb2 0; obtain ⟨f, bf, rfl, hTf, hnf⟩ := hq2; go_wp2; exact ⟨undef, rfl, ⟨f, bf, b2⟩, ⟨hTf.kept (grown_set _ b2 _) (fun e => (hTf.far hb2 (by decide)).1 (by injection e)) (fun e => (hTf.far hb2 (by decide)).2 (by injection e)), hPr.set hb2 _, (below_then HB HB.size hG).setCell (Nat.le_trans HB.size hn2) _, blk_far (p := ⟨b2, 0, none⟩) hbkr (show bx ≠ b2 by have := blk_lt hbk; omega) _, by simpa using blk_set hb2 0 _, hn2, hnf⟩, trivial, rfl, trivial, rfl, rfl, rfl, trivial⟩
              refine ⟨fun γ d wr hG hf _ => ?_, ?_⟩
              · skip
                obtain ⟨f, bf, b2⟩ := γ
                replace hG : Tm wr f bf L ∧ Pl wr g b A' c' L ∧ Below W0.heap.size W0 wr ∧ wr.heap[bx]? = some (.cells #[.slice A' L.length c'] 39 (0, 0)) ∧ wr.heap[b2]? = some (.cells #[.slice A' L.length c'] 39 (0, 0)) ∧ wd.heap.size ≤ b2 ∧ wd.heap.size ≤ bf := hG
                clear hf
                refine .inl ⟨by rfl, ?_⟩
                simp only [Reg.ung]
                go_wp2
                exact ⟨_, rfl, by simpa using hG, rfl⟩
              exact trivial
            case he =>
              intro xs hl0_ γ wr hG hf
              obtain ⟨x0, xs1, rfl, hl1⟩ := Reg.len_succ hl0_
              obtain ⟨x1, xs2, rfl, hl2⟩ := Reg.len_succ hl1
              obtain ⟨x2, xs3, rfl, hl3⟩ := Reg.len_succ hl2
              obtain ⟨x3, xs4, rfl, hl4⟩ := Reg.len_succ hl3
              obtain ⟨x4, xs5, rfl, hl5⟩ := Reg.len_succ hl4
              obtain ⟨x5, xs6, rfl, hl6⟩ := Reg.len_succ hl5
              obtain ⟨x6, xs7, rfl, hl7⟩ := Reg.len_succ hl6
              obtain rfl := List.eq_nil_of_length_eq_zero hl7
              clear hl0_ hl1 hl2 hl3 hl4 hl5 hl6 hl7
              obtain ⟨f, bf, b2⟩ := γ
              replace hG : Tm wr f bf L ∧ Pl wr g b A' c' L ∧ Below W0.heap.size W0 wr ∧ wr.heap[bx]? = some (.cells #[.slice A' L.length c'] 39 (0, 0)) ∧ wr.heap[b2]? = some (.cells #[.slice A' L.length c'] 39 (0, 0)) ∧ wd.heap.size ≤ b2 ∧ wd.heap.size ≤ bf := hG
              obtain ⟨hq0, hq1, hq2, hq3, hq4, hq5, hq6, -⟩ := hf
              obtain rfl : x0 = (.pointer (some ⟨g, 0, none⟩) : Value) := hq0
              replace hq1 : True := hq1
              obtain rfl : x2 = (.agg #[.slice A' L.length c'] : Value) := hq2
              obtain rfl : x3 = (.pointer (some ⟨b2, 0, none⟩) : Value) := hq3
              obtain rfl : x4 = (.pointer (some ⟨f, 0, none⟩) : Value) := hq4
              replace hq5 : True := hq5
              obtain rfl : x6 = (.bool true : Value) := hq6
              simp only [Reg.putL, Act.put, List.setIfInBounds_toArray, List.set_cons_succ, List.set_cons_zero]
              obtain ⟨hTf, hP2, hB2, hbk2, hbb2, hn2, hnf⟩ := hG
              have hbbf : b ≠ bf := by omega
              have hbxb2 : bx ≠ b2 := by omega
              have hb2W : W0.heap.size ≤ b2 := Nat.le_trans HB.size hn2
              have hbfW : W0.heap.size ≤ bf := Nat.le_trans HB.size hnf
              have HPF := Aside0.mk (show Pl wr f bf A' c' L from ⟨hTf, hP2.2⟩)
              have HPG := Aside0.mk hP2
              have HB2 := Aside0.mk hB2
              have HBX := Aside0.mk hbk2
              have HBB := Aside0.mk hbb2
              clear hTf hP2 hB2 hbk2 hbb2 hP hbk HB hn2 hnf hgb hbxl HWD
              obtain ⟨w4, hw4⟩ : ∃ w4, w4 = wr := ⟨_, rfl⟩
              rw [← hw4] at HPF HPG HB2 HBX HBB ⊢
              clear hw4
              go_wp2_with (fail)
              obtain ⟨n, hn⟩ : ∃ n, n = L.length := ⟨_, rfl⟩
              have HN := Aside0.mk hn
              rw [← hn] at HBX HBB
              go_loopg [10, 11] (m.length + 1) (fun kq v10 v11 wr => ∃ (x : Int) (A2 : Option Addr) (c2 : Nat) (L2 : List S52), v10 = .bool true ∧ v11 = .int .i64 x ∧ Aside0 (0 ≤ x ∧ x ≤ m.length ∧ x + kq = m.length + 1) ∧ Aside0 (Pl wr f bf A2 c2 L2) ∧ Aside0 (L2.length ≤ n + x) ∧
                Aside0 (Below W0.heap.size W0 wr) ∧ Aside0 (wr.heap[b2]? = some (.cells #[.slice A2 L2.length c2] 39 (0, 0))) ∧ Aside0 (Pl wr g b A' c' L) ∧ Aside0 (wr.heap[bx]? = some (.cells #[.slice A' n c'] 39 (0, 0))))
              case atStart => exact ⟨0, A', c', L, rfl, rfl, ⟨by omega⟩, HPF, ⟨by omega⟩, HB2, by rw [← hn]; exact HBB, HPG, HBX⟩
              case round =>
                have hn150 : n ≤ 150 := by omega
                clear HPF HPG HB2 HBX HBB hn
                obtain ⟨x, A2, c2, L2, rfl, rfl, HI, HP, HLX, HB, HBB, HPG, HBX⟩ := hrel
                cases gk with
                | zero => exact absurd HI.out (by omega)
                | succ k1 =>
                  obtain ⟨hx0, hxn, hxk⟩ := HI.out
                  have hlx := HLX.out
                  by_cases hlt : x < (m.length : Int)
                  · obtain ⟨ad, A4, c4, hA, f0, f1, f2, f3, f4, hc4, hC4⟩ := at_T44 HM.out x hx0 hlt
                    subst hA
                    have hmem : rd_T44 m x ∈ m := by
                      have hj : x.toNat < m.length := by omega
                      have e : rd_T44 m x = m[x.toNat] := by simp [rd_T44, hj]
                      rw [e]; exact List.getElem_mem hj
                    obtain ⟨y, hye⟩ : ∃ y, y = rd_T44 m x := ⟨_, rfl⟩
                    rw [← hye] at f0 f1 f2 f3 f4 hc4 hC4 hmem
                    have hy := HOK2.out y hmem
                    have hn4 : y.f4.length ≤ 1000000000 := Nat.le_trans (HKS2.out y hmem) (by decide)
                    clear hye hmem
                    obtain ⟨wd, hwd⟩ : ∃ wd, wd = wr.drew := ⟨_, rfl⟩
                    have HD := Aside0.mk (show Below wr.heap.size wr wd by rw [hwd]; exact (Below.refl _ _).drew)
                    have HWD := Aside0.mk hwd
                    clear hwd
                    go_wp2_with (fail)
                    have HBd := Aside0.mk (below_then HB.out HB.out.size HD.out)
                    have hP := HP.out.below HD.out
                    have hPg := HPG.out.below HD.out
                    have hB := HBd.out
                    replace f0 := (hB.cell (World.block_lt_of_cell? W0 _ f0)).trans f0
                    replace f1 := (hB.cell (World.block_lt_of_cell? W0 _ f1)).trans f1
                    replace f2 := (hB.cell (World.block_lt_of_cell? W0 _ f2)).trans f2
                    replace f3 := (hB.cell (World.block_lt_of_cell? W0 _ f3)).trans f3
                    replace f4 := (hB.cell (World.block_lt_of_cell? W0 _ f4)).trans f4
                    replace hC4 := Kd.C_below hC4 hB
                    have hbb := blk_below HBB.out HD.out
                    have hbx1 := blk_below HBX.out HD.out
                    have cz := (blk_cell hbb 0).trans rfl
                    have hLL : L2.length < 1000000000 := by omega
                    have hbne : some b2 ≠ some bf := fun e => (hP.1.far hbb (by decide)).2 (by injection e with e; exact e.symm)
                    have hbxne : some bx ≠ some bf := fun e => (hP.1.far hbx1 (by decide)).2 (by injection e with e; exact e.symm)
                    have HB := hB
                    clear HI HP HLX HBd HBB HBX HPG HD hB
                    refine Reg.region_pivot (Γ := (Option Addr) × (Nat) × (List S52)) hmix [some 55, some 56, some 57, some 58, some 59, some 60, some 61, some 54, some 62, some 63, none, some 10] [[], [], [], [], [2, 3], [4], [0, 1, 5], [6], [7], [7], [8, 6, 0, 1, 2, 3, 4, 5, 6, 7, 8], [9, 10, 0, 1, 2, 3, 4, 5, 6, 7, 8, 9, 10]] 6 10 [0, 1, 2, 3, 4, 5] (fun w => w = wd) (fun γ d w => Pl w f bf γ.1 γ.2.1 γ.2.2 ∧ γ.2.2.length ≤ L2.length + 1 ∧ Below W0.heap.size W0 w ∧ w.heap[b2]? = some (.cells #[bif d then .slice γ.1 γ.2.2.length γ.2.1 else .slice A2 L2.length c2] 39 (0, 0)) ∧ Pl w g b A' c' L ∧ w.heap[bx]? = some (.cells #[.slice A' n c'] 39 (0, 0))) [(fun v => v = (.pointer (some ⟨f, 0, none⟩) : Value)), (fun v => v = (.agg #[.slice A2 L2.length c2] : Value)), (fun v => v = (.slice (some ad) m.length cm : Value)), (fun v => v = (.int .i64 x : Value)), (fun v => v = (.pointer (some (ad.add (x.toNat * 5))) : Value)), (fun v => v = (.agg #[.int .u8 y.f0, .string y.f1, .int .i64 y.f2, .int .i64 y.f3, .slice A4 y.f4.length c4] : Value)), (fun _ => False), (fun _ => False), (fun _ => False), (fun _ => False), (fun _ => False), (fun _ => False)] (fun γ => [(fun v => v = (.pointer (some ⟨f, 0, none⟩) : Value)), (fun v => v = (.agg #[.slice A2 L2.length c2] : Value)), (fun v => v = (.slice (some ad) m.length cm : Value)), (fun v => v = (.int .i64 x : Value)), (fun v => v = (.pointer (some (ad.add (x.toNat * 5))) : Value)), (fun v => v = (.agg #[.int .u8 y.f0, .string y.f1, .int .i64 y.f2, .int .i64 y.f3, .slice A4 y.f4.length c4] : Value)), (fun v => v = (.tuple #[.agg #[.slice γ.1 γ.2.2.length γ.2.1], .bool true] : Value)), (fun v => v = (.tuple #[.agg #[.slice γ.1 γ.2.2.length γ.2.1], .bool true] : Value)), (fun v => v = (.agg #[.slice γ.1 γ.2.2.length γ.2.1] : Value)), (fun v => v = (.bool true : Value)), (fun v => True), (fun v => v = (.bool true : Value))]) rfl (by kernel_rfl) (by kernel_rfl) (fun γ => Reg.imp_cons (fun _ h => h) (Reg.imp_cons (fun _ h => h) (Reg.imp_cons (fun _ h => h) (Reg.imp_cons (fun _ h => h) (Reg.imp_cons (fun _ h => h) (Reg.imp_cons (fun _ h => h) (Reg.imp_cons (fun _ h => h.elim) (Reg.imp_cons (fun _ h => h.elim) (Reg.imp_cons (fun _ h => h.elim) (Reg.imp_cons (fun _ h => h.elim) (Reg.imp_cons (fun _ h => h.elim) (Reg.imp_cons (fun _ h => h.elim) (Reg.imp_nil (γ := True)))))))))))))) (HWD.out.symm) ?hs ?he
                    case hs =>
                      intro xs0 xs hx0 hl0_
                      clear hx0
                      obtain ⟨x0, xs1, rfl, hl1⟩ := Reg.len_succ hl0_
                      obtain ⟨x1, xs2, rfl, hl2⟩ := Reg.len_succ hl1
                      obtain ⟨x2, xs3, rfl, hl3⟩ := Reg.len_succ hl2
                      obtain ⟨x3, xs4, rfl, hl4⟩ := Reg.len_succ hl3
                      obtain ⟨x4, xs5, rfl, hl5⟩ := Reg.len_succ hl4
                      obtain ⟨x5, xs6, rfl, hl6⟩ := Reg.len_succ hl5
                      obtain ⟨x6, xs7, rfl, hl7⟩ := Reg.len_succ hl6
                      obtain ⟨x7, xs8, rfl, hl8⟩ := Reg.len_succ hl7
                      obtain ⟨x8, xs9, rfl, hl9⟩ := Reg.len_succ hl8
                      obtain ⟨x9, xs10, rfl, hl10⟩ := Reg.len_succ hl9
                      obtain ⟨x10, xs11, rfl, hl11⟩ := Reg.len_succ hl10
                      obtain ⟨x11, xs12, rfl, hl12⟩ := Reg.len_succ hl11
                      obtain rfl := List.eq_nil_of_length_eq_zero hl12
                      clear hl0_ hl1 hl2 hl3 hl4 hl5 hl6 hl7 hl8 hl9 hl10 hl11 hl12
                      simp only [Reg.putL, Act.put, List.setIfInBounds_toArray, List.set_cons_succ, List.set_cons_zero]
                      refine ⟨fun wr hG hf _ => ?_, ?_⟩
                      · skip
                        replace hG : wr = wd := hG
                        clear hf
                        refine .inl ⟨by rfl, ?_⟩
                        simp only [Reg.ung]
                        subst hG
                        go_wp2; exact ⟨_, rfl, rfl, rfl⟩
                      refine ⟨fun wr hG hf _ => ?_, ?_⟩
                      · skip
                        replace hG : wr = wd := hG
                        clear hf
                        refine .inl ⟨by rfl, ?_⟩
                        simp only [Reg.ung]
                        subst hG
                        go_wp2; exact ⟨_, rfl, rfl, rfl⟩
                      refine ⟨fun wr hG hf _ => ?_, ?_⟩
                      · skip
                        replace hG : wr = wd := hG
                        clear hf
                        refine .inl ⟨by rfl, ?_⟩
                        simp only [Reg.ung]
                        subst hG
                        go_wp2; exact ⟨_, rfl, rfl, rfl⟩
                      refine ⟨fun wr hG hf _ => ?_, ?_⟩
                      · skip
                        replace hG : wr = wd := hG
                        clear hf
                        refine .inl ⟨by rfl, ?_⟩
                        simp only [Reg.ung]
                        subst hG
                        go_wp2; exact ⟨_, rfl, rfl, rfl⟩
                      refine ⟨fun wr hG hf _ => ?_, ?_⟩
                      · skip
                        replace hG : wr = wd := hG
                        obtain ⟨hq0, hq1, -⟩ := hf
                        obtain rfl : x2 = (.slice (some ad) m.length cm : Value) := hq0
                        obtain rfl : x3 = (.int .i64 x : Value) := hq1
                        refine .inl ⟨by rfl, ?_⟩
                        simp only [Reg.ung]
                        subst hG
                        go_wp2; exact ⟨_, rfl, rfl, rfl⟩
                      refine ⟨fun wr hG hf _ => ?_, ?_⟩
                      · skip
                        replace hG : wr = wd := hG
                        obtain ⟨hq0, -⟩ := hf
                        obtain rfl : x4 = (.pointer (some (ad.add (x.toNat * 5))) : Value) := hq0
                        refine .inl ⟨by rfl, ?_⟩
                        simp only [Reg.ung]
                        subst hG
                        go_wp2; exact ⟨_, rfl, rfl, rfl⟩
                      refine ⟨fun wr hG hf _ => ?_, ?_⟩
                      · skip
                        replace hG : wr = wd := hG
                        obtain ⟨hq0, hq1, hq2, -⟩ := hf
                        obtain rfl : x0 = (.pointer (some ⟨f, 0, none⟩) : Value) := hq0
                        obtain rfl : x1 = (.agg #[.slice A2 L2.length c2] : Value) := hq1
                        obtain rfl : x5 = (.agg #[.int .u8 y.f0, .string y.f1, .int .i64 y.f2, .int .i64 y.f3, .slice A4 y.f4.length c4] : Value) := hq2
                        refine .inl ⟨by rfl, ?_⟩
                        simp only [Reg.ung]
                        subst hG
                        go_wp2_with ((go_at_call 16; refine (do_any f bf A2 c2 L2 y A4 c4 _ hP hLL hy.1 hy.2 hC4 hc4 hn4).mono ?_; rintro e w' ⟨A1, c1, L1, rfl, hP1, hg1, hle⟩)); exact ⟨_, rfl, ⟨A1, c1, L1⟩, ⟨hP1, hle, HB.grown hg1 HB.size (fun j hj => by cases hj; exact hbfW), blk_grown hbb hg1 hbne, hPg.other hP.1 hbbf hg1, blk_grown hbx1 hg1 hbxne⟩, rfl⟩
                      refine ⟨fun γ d wr hG hf _ => ?_, ?_⟩
                      · skip
                        obtain ⟨A1, c1, L1⟩ := γ
                        replace hG : Pl wr f bf A1 c1 L1 ∧ L1.length ≤ L2.length + 1 ∧ Below W0.heap.size W0 wr ∧ wr.heap[b2]? = some (.cells #[bif d then .slice A1 L1.length c1 else .slice A2 L2.length c2] 39 (0, 0)) ∧ Pl wr g b A' c' L ∧ wr.heap[bx]? = some (.cells #[.slice A' n c'] 39 (0, 0)) := hG
                        obtain ⟨hq0, -⟩ := hf
                        obtain rfl : x6 = (.tuple #[.agg #[.slice A1 L1.length c1], .bool true] : Value) := hq0
                        refine .inl ⟨by rfl, ?_⟩
                        simp only [Reg.ung]
                        go_wp2
                        exact ⟨_, rfl, by simpa using hG, rfl⟩
                      refine ⟨fun γ d wr hG hf _ => ?_, ?_⟩
                      · skip
                        obtain ⟨A1, c1, L1⟩ := γ
                        replace hG : Pl wr f bf A1 c1 L1 ∧ L1.length ≤ L2.length + 1 ∧ Below W0.heap.size W0 wr ∧ wr.heap[b2]? = some (.cells #[bif d then .slice A1 L1.length c1 else .slice A2 L2.length c2] 39 (0, 0)) ∧ Pl wr g b A' c' L ∧ wr.heap[bx]? = some (.cells #[.slice A' n c'] 39 (0, 0)) := hG
                        obtain ⟨hq0, -⟩ := hf
                        obtain rfl : x7 = (.tuple #[.agg #[.slice A1 L1.length c1], .bool true] : Value) := hq0
                        refine .inl ⟨by rfl, ?_⟩
                        simp only [Reg.ung]
                        go_wp2
                        exact ⟨_, rfl, by simpa using hG, rfl⟩
                      refine ⟨fun γ d wr hG hf _ => ?_, ?_⟩
                      · skip
                        obtain ⟨A1, c1, L1⟩ := γ
                        replace hG : Pl wr f bf A1 c1 L1 ∧ L1.length ≤ L2.length + 1 ∧ Below W0.heap.size W0 wr ∧ wr.heap[b2]? = some (.cells #[bif d then .slice A1 L1.length c1 else .slice A2 L2.length c2] 39 (0, 0)) ∧ Pl wr g b A' c' L ∧ wr.heap[bx]? = some (.cells #[.slice A' n c'] 39 (0, 0)) := hG
                        obtain ⟨hq0, -⟩ := hf
                        obtain rfl : x7 = (.tuple #[.agg #[.slice A1 L1.length c1], .bool true] : Value) := hq0
                        refine .inl ⟨by rfl, ?_⟩
                        simp only [Reg.ung]
                        go_wp2
                        exact ⟨_, rfl, by simpa using hG, rfl⟩
                      refine ⟨fun γ d wr hG hf _ => ?_, ?_⟩
                      · skip
                        obtain ⟨A1, c1, L1⟩ := γ
                        replace hG : Pl wr f bf A1 c1 L1 ∧ L1.length ≤ L2.length + 1 ∧ Below W0.heap.size W0 wr ∧ wr.heap[b2]? = some (.cells #[bif d then .slice A1 L1.length c1 else .slice A2 L2.length c2] 39 (0, 0)) ∧ Pl wr g b A' c' L ∧ wr.heap[bx]? = some (.cells #[.slice A' n c'] 39 (0, 0)) := hG
                        obtain ⟨hq0, -, -, -, -, -, -, -, -, -, -, -⟩ := hf
                        obtain rfl : x8 = (.agg #[.slice A1 L1.length c1] : Value) := hq0
                        refine .inl ⟨by rfl, ?_⟩
                        simp only [Reg.ung]
                        obtain ⟨hP1, hle, hB1, hb1, hPg1, hbx1'⟩ := hG; have cz := (blk_cell hb1 0).trans rfl; have fz := blk_frozen hb1 0; go_wp2; exact ⟨undef, rfl, ⟨hP1.set hb1 _, hle, hB1.setCell hb2W _, by simpa using blk_set hb1 0 _, hPg1.set hb1 _, blk_far (p := ⟨b2, 0, none⟩) hbx1' hbxb2 _⟩, trivial⟩
                      refine ⟨fun γ d wr hG hf _ => ?_, ?_⟩
                      · skip
                        obtain ⟨A1, c1, L1⟩ := γ
                        replace hG : Pl wr f bf A1 c1 L1 ∧ L1.length ≤ L2.length + 1 ∧ Below W0.heap.size W0 wr ∧ wr.heap[b2]? = some (.cells #[bif d then .slice A1 L1.length c1 else .slice A2 L2.length c2] 39 (0, 0)) ∧ Pl wr g b A' c' L ∧ wr.heap[bx]? = some (.cells #[.slice A' n c'] 39 (0, 0)) := hG
                        obtain ⟨hq0, -, -, -, -, -, -, -, -, -, -, -, -, -⟩ := hf
                        obtain rfl : x9 = (.bool true : Value) := hq0
                        refine .inl ⟨by rfl, ?_⟩
                        simp only [Reg.ung]
                        go_wp2
                        exact ⟨_, rfl, by simpa using hG, rfl⟩
                      exact trivial
                    case he =>
                      intro xs hl0_ γ wr hG hf
                      obtain ⟨x0, xs1, rfl, hl1⟩ := Reg.len_succ hl0_
                      obtain ⟨x1, xs2, rfl, hl2⟩ := Reg.len_succ hl1
                      obtain ⟨x2, xs3, rfl, hl3⟩ := Reg.len_succ hl2
                      obtain ⟨x3, xs4, rfl, hl4⟩ := Reg.len_succ hl3
                      obtain ⟨x4, xs5, rfl, hl5⟩ := Reg.len_succ hl4
                      obtain ⟨x5, xs6, rfl, hl6⟩ := Reg.len_succ hl5
                      obtain ⟨x6, xs7, rfl, hl7⟩ := Reg.len_succ hl6
                      obtain ⟨x7, xs8, rfl, hl8⟩ := Reg.len_succ hl7
                      obtain ⟨x8, xs9, rfl, hl9⟩ := Reg.len_succ hl8
                      obtain ⟨x9, xs10, rfl, hl10⟩ := Reg.len_succ hl9
                      obtain ⟨x10, xs11, rfl, hl11⟩ := Reg.len_succ hl10
                      obtain ⟨x11, xs12, rfl, hl12⟩ := Reg.len_succ hl11
                      obtain rfl := List.eq_nil_of_length_eq_zero hl12
                      clear hl0_ hl1 hl2 hl3 hl4 hl5 hl6 hl7 hl8 hl9 hl10 hl11 hl12
                      obtain ⟨A1, c1, L1⟩ := γ
                      replace hG : Pl wr f bf A1 c1 L1 ∧ L1.length ≤ L2.length + 1 ∧ Below W0.heap.size W0 wr ∧ wr.heap[b2]? = some (.cells #[bif true then .slice A1 L1.length c1 else .slice A2 L2.length c2] 39 (0, 0)) ∧ Pl wr g b A' c' L ∧ wr.heap[bx]? = some (.cells #[.slice A' n c'] 39 (0, 0)) := hG
                      obtain ⟨hq0, hq1, hq2, hq3, hq4, hq5, hq6, hq7, hq8, hq9, hq10, hq11, -⟩ := hf
                      obtain rfl : x0 = (.pointer (some ⟨f, 0, none⟩) : Value) := hq0
                      obtain rfl : x1 = (.agg #[.slice A2 L2.length c2] : Value) := hq1
                      obtain rfl : x2 = (.slice (some ad) m.length cm : Value) := hq2
                      obtain rfl : x3 = (.int .i64 x : Value) := hq3
                      obtain rfl : x4 = (.pointer (some (ad.add (x.toNat * 5))) : Value) := hq4
                      obtain rfl : x5 = (.agg #[.int .u8 y.f0, .string y.f1, .int .i64 y.f2, .int .i64 y.f3, .slice A4 y.f4.length c4] : Value) := hq5
                      obtain rfl : x6 = (.tuple #[.agg #[.slice A1 L1.length c1], .bool true] : Value) := hq6
                      obtain rfl : x7 = (.tuple #[.agg #[.slice A1 L1.length c1], .bool true] : Value) := hq7
                      obtain rfl : x8 = (.agg #[.slice A1 L1.length c1] : Value) := hq8
                      obtain rfl : x9 = (.bool true : Value) := hq9
                      replace hq10 : True := hq10
                      obtain rfl : x11 = (.bool true : Value) := hq11
                      simp only [Reg.putL, Act.put, List.setIfInBounds_toArray, List.set_cons_succ, List.set_cons_zero]
                      simp only [cond_true] at hG; obtain ⟨hP1, hle, hB1, hb1, hPg1, hbx1'⟩ := hG
                      obtain ⟨HP2, HLE2, HB2, HBK2, HPG2, HBX2⟩ : Aside0 (Pl wr f bf A1 c1 L1) ∧ Aside0 (L1.length ≤ L2.length + 1) ∧ Aside0 (Below W0.heap.size W0 wr) ∧ Aside0 (wr.heap[b2]? = some (.cells #[.slice A1 L1.length c1] 39 (0, 0))) ∧ Aside0 (Pl wr g b A' c' L) ∧ Aside0 (wr.heap[bx]? = some (.cells #[.slice A' n c'] 39 (0, 0))) := ⟨⟨hP1⟩, ⟨hle⟩, ⟨hB1⟩, ⟨hb1⟩, ⟨hPg1⟩, ⟨hbx1'⟩⟩
                      clear hP1 hle hB1 hb1 hPg1 hbx1'
                      go_wp2_with (fail)
                      go_roundg k1
                      case measure => omega
                      case rel => exact ⟨x + 1, A1, c1, L1, rfl, rfl, ⟨by omega⟩, HP2, ⟨by have := HLE2.out; omega⟩, HB2, HBK2, HPG2, HBX2⟩
                  · have hcb : decide (x < (m.length : Int)) = false := decide_eq_false hlt
                    have hL2 : L2.length ≤ 1000000000 := by omega
                    have hL1 : L.length ≤ 1000000000 := by have := HN.out; omega
                    have hgs : (ByteArray.mk #[103]).size ≤ maxLen := by decide
                    have cz := (blk_cell HBB.out 0).trans rfl
                    clear HI hx0 hxn hxk hlt hlx HLX
                    go_wp2_with (fail)
                    refine (next_nil _ wr).mono ?_
                    rintro e w5 ⟨rfl, rfl⟩
                    go_wp2_with (fail)
                    refine (seen_nil _ 1 1 w5).mono ?_
                    rintro e w6 ⟨rfl, rfl⟩
                    go_wp2_with (fail)
                    refine (set_nil _ 1 w6).mono ?_
                    rintro e w7 ⟨rfl, rfl⟩
                    go_wp2_with (fail)
                    refine (due_nil 9 w7).mono ?_
                    rintro e w8 ⟨rfl, hb⟩
                    have HB8 := Aside0.mk (below_then HB.out HB.out.size hb)
                    have HP8 := Aside0.mk (HP.out.below hb)
                    have HPG8 := Aside0.mk (HPG.out.below hb)
                    have HBB8 := Aside0.mk (blk_below HBB.out hb)
                    have HBX8 := Aside0.mk (blk_below HBX.out hb)
                    clear hb HB HP HPG HBB HBX cz
                    go_wp2_with (fail)
                    refine (drop_nil _ w8).mono ?_
                    rintro e w9 ⟨rfl, rfl⟩
                    go_wp2_with (fail)
                    refine (keep_nil w9).mono ?_
                    rintro e w10 ⟨rfl, hb⟩
                    have HB10 := Aside0.mk (below_then HB8.out HB8.out.size hb)
                    have HP10 := Aside0.mk (HP8.out.below hb)
                    have HPG10 := Aside0.mk (HPG8.out.below hb)
                    have HBB10 := Aside0.mk (blk_below HBB8.out hb)
                    have HBX10 := Aside0.mk (blk_below HBX8.out hb)
                    clear hb HB8 HP8 HPG8 HBB8 HBX8
                    go_wp2_with (fail)
                    refine (len_nil w10).mono ?_
                    rintro e w11 ⟨rfl, rfl⟩
                    go_wp2_with (fail)
                    refine (fork_nil w11).mono ?_
                    rintro e w12 ⟨rfl, rfl⟩
                    have cz := (blk_cell HBB10.out 0).trans rfl
                    go_wp2_with (fail)
                    refine (same_any f bf A2 c2 L2 9 _ w12 HP10.out hL2 hgs).mono ?_
                    rintro e w13 ⟨rfl, hb⟩
                    have HB13 := Aside0.mk (below_then HB10.out HB10.out.size hb)
                    have HPG13 := Aside0.mk (HPG10.out.below hb)
                    have HBX13 := Aside0.mk (blk_below HBX10.out hb)
                    clear hb HB10 HP10 HPG10 HBB10 HBX10 cz
                    have cz := (blk_cell HBX13.out 0).trans rfl
                    go_wp2_with (fail)
                    rw [HN.out]
                    refine (same_any g b A' c' L 9 _ w13 HPG13.out hL1 hgs).mono ?_
                    rintro e w14 ⟨rfl, hb⟩
                    have HB14 := Aside0.mk (below_then HB13.out HB13.out.size hb)
                    clear hb HB13 HPG13 HBX13 cz
                    go_wp2_with (fail)
                    refine (awake_any w14).mono ?_
                    rintro e w15 ⟨rfl, hb⟩
                    have HB15 := Aside0.mk (below_then HB14.out HB14.out.size hb)
                    clear hb
                    go_wp2_with (fail)
                    go_ret
                    exact ⟨rfl, HB15.out⟩
end Go.Proofs.Ytbocdfpgjkjilaa.T
