/- TimerKeeps in memory: keys that are kept keep their times, all others have none; how many those were is told. -/
import Derived.Test.YtbocdfpgjkjilaaTK
set_option linter.unusedVariables false
set_option linter.unusedSimpArgs false
namespace Go.Proofs.Ytbocdfpgjkjilaa.T
open Go.RowKit Go.Maps Go.Sort Go.Shelf Go.Proofs.YtbocdfpgjkjilaaW.PrintWords Go.Proofs.Ytbocdfpgjkjilaa.PTimerPlays Go.Proofs.Ytbocdfpgjkjilaa.R Go.Proofs.Ytbocdfpgjkjilaa.Cells

theorem keep_has {L : List S52} {keys : List ByteArray} {y : S52} (hy : y ∈ L) : tHas (keepL L keys) y.f0 = inB keys y.f0 := by
  cases h : inB keys y.f0 with
  | true => exact List.any_eq_true.2 ⟨y, List.mem_filter.2 ⟨hy, h⟩, by simp⟩
  | false =>
    refine List.any_eq_false.2 (fun z hz => ?_)
    obtain ⟨_, h2⟩ := List.mem_filter.1 hz
    intro e
    have e' : z.f0 = y.f0 := by simpa using e
    rw [e', h] at h2
    cases h2
theorem keep_at {L : List S52} {keys : List ByteArray} {y : S52} (hk : Keys1 L) (hy : y ∈ L) (h : inB keys y.f0 = true) : tAt (keepL L keys) y.f0 = y.f1 := by
  have hk2 : Keys1 (keepL L keys) := List.Pairwise.filter _ hk
  unfold tAt
  rw [find_perm_key hk2 _ y (List.mem_filter.2 ⟨hy, h⟩) rfl]
theorem beq_tl (a b : ByteArray) : (a.toList == b.toList) = decide (a = b) := by
  by_cases e : a = b
  · subst e; simp
  · have h : ¬ a.toList = b.toList := fun h => e (tl_inj.1 h)
    simp [e, h]
theorem in_take {keys : List ByteArray} {key : ByteArray} {j : Nat} (h : j < keys.length) : inB (keys.take (j + 1)) key = (inB (keys.take j) key || decide (keys[j] = key)) := by
  unfold inB
  rw [List.take_add_one, List.any_append, List.getElem?_eq_getElem h]
  simp
theorem cnt_take {L : List S52} (p : S52 → Bool) {j : Nat} (h : j < L.length) : ((L.take (j + 1)).filter p).length = ((L.take j).filter p).length + (if p L[j] then 1 else 0) := by
  rw [List.take_add_one, List.filter_append, List.getElem?_eq_getElem h, List.length_append]
  cases hp : p L[j] <;> simp [hp]

set_option maxRecDepth 100000 in
set_option maxHeartbeats 8000000 in
theorem keeps_any (A : Option Addr) (c : Nat) (l : List S44) (B : Option Addr) (q : Nat) (keys : List ByteArray) (W0 : World) (hl : Kd.C k44 W0 A l.length l) (hc : l.length ≤ c) (hok : ∀ y ∈ l, ActOk y) (hk : Kd.C Kd.string W0 B keys.length keys) (hq : keys.length ≤ q) :
    Calls Try.prog 7 #[.slice A l.length c, .slice B keys.length q] W0 fun e w' => e = .returned (.bool true) ∧ Below W0.heap.size W0 w' := by
  have HL := Aside0.mk hl
  have HOK := Aside0.mk hok
  have HKY := Aside0.mk hk
  clear hl hok hk
  cases hf : fewB l with
  | false =>
    go_enter Try.func7, Try.ntmps7
    go_wp2_with (fail)
    refine (few_any A c l W0 HL.out hc).mono ?_
    rw [hf]
    rintro e w1 ⟨rfl, hb⟩
    have HB := Aside0.mk hb
    clear hb
    go_wp2_with (fail)
    refine (awake_any w1).mono ?_
    rintro e w2 ⟨rfl, hb⟩
    have HB2 := Aside0.mk (below_then HB.out HB.out.size hb)
    clear hb
    go_wp2_with (fail)
    go_ret
    exact ⟨rfl, HB2.out⟩
  | true =>
    obtain ⟨hlen, hks⟩ := fewB_len hf
    have HKS := Aside0.mk hks
    clear hks
    by_cases hln : 60 < (keys.length : Int)
    · have hlb : decide (60 < (keys.length : Int)) = true := decide_eq_true hln
      go_enter Try.func7, Try.ntmps7
      go_wp2_with (fail)
      refine (few_any A c l W0 HL.out hc).mono ?_
      rw [hf]
      rintro e w1 ⟨rfl, hb⟩
      have HB := Aside0.mk hb
      clear hb
      go_wp2_with (fail)
      refine (awake_any w1).mono ?_
      rintro e w2 ⟨rfl, hb⟩
      have HB2 := Aside0.mk (below_then HB.out HB.out.size hb)
      clear hb
      go_wp2_with (fail)
      go_ret
      exact ⟨rfl, HB2.out⟩
    · have hlb : decide (60 < (keys.length : Int)) = false := decide_eq_false hln
      go_enter Try.func7, Try.ntmps7
      go_wp2_with (fail)
      refine (few_any A c l W0 HL.out hc).mono ?_
      rw [hf]
      rintro e w1 ⟨rfl, hb⟩
      have HB := Aside0.mk hb
      clear hb hf
      go_wp2_with (fail)
      refine (new_any w1).mono ?_
      rintro e w2 ⟨g, b, rfl, ht, hb, hgg, hbb0⟩
      have HT := Aside0.mk ht
      have hbb : W0.heap.size ≤ b := Nat.le_trans HB.out.size hbb0
      have HB2 := Aside0.mk (below_then HB.out HB.out.size hb)
      clear ht hb hgg hbb0 HB
      go_wp2_with (fail)
      have HBK0 := Aside0.mk (blk_new w2 (Obj.cells #[Value.slice none 0 0] 39 (0, 0)))
      have HP0 := Aside0.mk ((pl_nil HT.out).below (below_alloc (Below.refl _ _) (Obj.cells #[Value.slice none 0 0] 39 (0, 0))))
      have HB3 := Aside0.mk (HB2.out.alloc HB2.out.size (Obj.cells #[Value.slice none 0 0] 39 (0, 0)))
      have hbx0 : W0.heap.size ≤ w2.heap.size := HB2.out.size
      obtain ⟨bx, hbxe⟩ : ∃ bx, bx = w2.heap.size := ⟨_, rfl⟩
      obtain ⟨w3, hw3⟩ : ∃ w3, w3 = w2.alloc (Obj.cells #[Value.slice none 0 0] 39 (0, 0)) := ⟨_, rfl⟩
      rw [← hw3] at HBK0 HP0 HB3
      rw [← hbxe] at HBK0 hbx0
      have hbx : W0.heap.size ≤ bx := hbx0
      try rw [← hw3]
      rw [← hbxe]
      clear hbxe hw3 HT HB2 hbx0
      go_loopg [7] (l.length + 1) (fun kq v7 wr => ∃ (x : Int) (A' : Option Addr) (c' : Nat) (L : List S52), v7 = .int .i64 x ∧ Aside0 (0 ≤ x ∧ x ≤ l.length ∧ x + kq = l.length + 1) ∧ Aside0 (Pl wr g b A' c' L) ∧ Aside0 (L.length ≤ x) ∧
        Aside0 (Below W0.heap.size W0 wr) ∧ Aside0 (wr.heap[bx]? = some (.cells #[.slice A' L.length c'] 39 (0, 0))))
      case atStart => exact ⟨0, none, 0, [], rfl, ⟨by omega⟩, HP0, ⟨by simp⟩, HB3, HBK0⟩
      case round =>
        clear HP0 HB3 HBK0
        obtain ⟨x, A', c', L, rfl, HI, HP, HLX, HB, HBK⟩ := hrel
        cases gk with
        | zero => exact absurd HI.out (by omega)
        | succ k1 =>
          obtain ⟨hx0, hxn, hxk⟩ := HI.out
          have hlx := HLX.out
          by_cases hlt : x < (l.length : Int)
          · skip
            obtain ⟨ad, A4, c4, hA, f0, f1, f2, f3, f4, hc4, hC4⟩ := at_T44 HL.out x hx0 hlt
            subst hA
            have hmem : rd_T44 l x ∈ l := by
              have hj : x.toNat < l.length := by omega
              have e : rd_T44 l x = l[x.toNat] := by simp [rd_T44, hj]
              rw [e]; exact List.getElem_mem hj
            obtain ⟨y, hye⟩ : ∃ y, y = rd_T44 l x := ⟨_, rfl⟩
            rw [← hye] at f0 f1 f2 f3 f4 hc4 hC4 hmem
            have hy := HOK.out y hmem
            have hn4 : y.f4.length ≤ 1000000000 := Nat.le_trans (HKS.out y hmem) (by decide)
            clear hye hmem
            obtain ⟨wd, hwd⟩ : ∃ wd, wd = wr.drew := ⟨_, rfl⟩
            have HD := Aside0.mk (show Below wr.heap.size wr wd by rw [hwd]; exact (Below.refl _ _).drew)
            have HWD := Aside0.mk hwd
            clear hwd
            go_wp2_with (fail)
            have HBd := Aside0.mk (below_then HB.out HB.out.size HD.out)
            have hP := HP.out.below HD.out
            have hB := HBd.out
            replace f0 := (hB.cell (World.block_lt_of_cell? W0 _ f0)).trans f0
            replace f1 := (hB.cell (World.block_lt_of_cell? W0 _ f1)).trans f1
            replace f2 := (hB.cell (World.block_lt_of_cell? W0 _ f2)).trans f2
            replace f3 := (hB.cell (World.block_lt_of_cell? W0 _ f3)).trans f3
            replace f4 := (hB.cell (World.block_lt_of_cell? W0 _ f4)).trans f4
            replace hC4 := Kd.C_below hC4 hB
            have hbk := blk_below HBK.out HD.out
            have cz := (blk_cell hbk 0).trans rfl
            have hLL : L.length < 1000000000 := by omega
            have hbne : some bx ≠ some b := fun e => (hP.1.far hbk (by decide)).2 (by injection e with e; exact e.symm)
            have HB := hB
            clear HI HP HLX HBd HBK HD hB
            refine Reg.region_pivot (Γ := (Option Addr) × (Nat) × (List S52)) hmix [some 34, some 35, some 36, some 37, some 38, some 39, some 40, some 33, some 41, some 42, none] [[], [], [], [], [2, 3], [4], [0, 1, 5], [6], [7], [7], [8, 6, 0, 1, 2, 3, 4, 5, 6, 7, 8]] 6 10 [0, 1, 2, 3, 4, 5] (fun w => w = wd) (fun γ d w => Pl w g b γ.1 γ.2.1 γ.2.2 ∧ γ.2.2.length ≤ L.length + 1 ∧ Below W0.heap.size W0 w ∧ w.heap[bx]? = some (.cells #[bif d then .slice γ.1 γ.2.2.length γ.2.1 else .slice A' L.length c'] 39 (0, 0))) [(fun v => v = (.pointer (some ⟨g, 0, none⟩) : Value)), (fun v => v = (.agg #[.slice A' L.length c'] : Value)), (fun v => v = (.slice (some ad) l.length c : Value)), (fun v => v = (.int .i64 x : Value)), (fun v => v = (.pointer (some (ad.add (x.toNat * 5))) : Value)), (fun v => v = (.agg #[.int .u8 y.f0, .string y.f1, .int .i64 y.f2, .int .i64 y.f3, .slice A4 y.f4.length c4] : Value)), (fun _ => False), (fun _ => False), (fun _ => False), (fun _ => False), (fun _ => False)] (fun γ => [(fun v => v = (.pointer (some ⟨g, 0, none⟩) : Value)), (fun v => v = (.agg #[.slice A' L.length c'] : Value)), (fun v => v = (.slice (some ad) l.length c : Value)), (fun v => v = (.int .i64 x : Value)), (fun v => v = (.pointer (some (ad.add (x.toNat * 5))) : Value)), (fun v => v = (.agg #[.int .u8 y.f0, .string y.f1, .int .i64 y.f2, .int .i64 y.f3, .slice A4 y.f4.length c4] : Value)), (fun v => v = (.tuple #[.agg #[.slice γ.1 γ.2.2.length γ.2.1], .bool true] : Value)), (fun v => v = (.tuple #[.agg #[.slice γ.1 γ.2.2.length γ.2.1], .bool true] : Value)), (fun v => v = (.agg #[.slice γ.1 γ.2.2.length γ.2.1] : Value)), (fun v => v = (.bool true : Value)), (fun v => True)]) rfl (by kernel_rfl) (by kernel_rfl) (fun γ => Reg.imp_cons (fun _ h => h) (Reg.imp_cons (fun _ h => h) (Reg.imp_cons (fun _ h => h) (Reg.imp_cons (fun _ h => h) (Reg.imp_cons (fun _ h => h) (Reg.imp_cons (fun _ h => h) (Reg.imp_cons (fun _ h => h.elim) (Reg.imp_cons (fun _ h => h.elim) (Reg.imp_cons (fun _ h => h.elim) (Reg.imp_cons (fun _ h => h.elim) (Reg.imp_cons (fun _ h => h.elim) (Reg.imp_nil (γ := True))))))))))))) (HWD.out.symm) ?hs ?he
            case hs =>
              intro xs0 xs hx0 hl0_
              clear hx0
              obtain ⟨x0, xs1, rfl, hl1⟩ := Reg.len_succ hl0_
              obtain ⟨x1, xs2, rfl, hl2⟩ := Reg.len_succ hl1
              obtain ⟨x2, xs3, rfl, hl3⟩ := Reg.len_succ hl2
              obtain ⟨x3, xs4, rfl, hl4⟩ := Reg.len_succ hl3
              obtain ⟨x4, xs5, rfl, hl5⟩ := Reg.len_succ hl4
              obtain ⟨x5, xs6, rfl, hl6⟩ := Reg.len_succ hl5
              obtain ⟨x6, xs7, rfl, hl7⟩ := Reg.len_succ hl6
              obtain ⟨x7, xs8, rfl, hl8⟩ := Reg.len_succ hl7
              obtain ⟨x8, xs9, rfl, hl9⟩ := Reg.len_succ hl8
              obtain ⟨x9, xs10, rfl, hl10⟩ := Reg.len_succ hl9
              obtain ⟨x10, xs11, rfl, hl11⟩ := Reg.len_succ hl10
              obtain rfl := List.eq_nil_of_length_eq_zero hl11
              clear hl0_ hl1 hl2 hl3 hl4 hl5 hl6 hl7 hl8 hl9 hl10 hl11
              simp only [Reg.putL, Act.put, List.setIfInBounds_toArray, List.set_cons_succ, List.set_cons_zero]
              refine ⟨fun wr hG hf _ => ?_, ?_⟩
              · skip
                replace hG : wr = wd := hG
                clear hf
                refine .inl ⟨by rfl, ?_⟩
                simp only [Reg.ung]
                subst hG
                go_wp2; exact ⟨_, rfl, rfl, rfl⟩
              refine ⟨fun wr hG hf _ => ?_, ?_⟩
              · skip
                replace hG : wr = wd := hG
                clear hf
                refine .inl ⟨by rfl, ?_⟩
                simp only [Reg.ung]
                subst hG
                go_wp2; exact ⟨_, rfl, rfl, rfl⟩
              refine ⟨fun wr hG hf _ => ?_, ?_⟩
              · skip
                replace hG : wr = wd := hG
                clear hf
                refine .inl ⟨by rfl, ?_⟩
                simp only [Reg.ung]
                subst hG
                go_wp2; exact ⟨_, rfl, rfl, rfl⟩
              refine ⟨fun wr hG hf _ => ?_, ?_⟩
              · skip
                replace hG : wr = wd := hG
                clear hf
                refine .inl ⟨by rfl, ?_⟩
                simp only [Reg.ung]
                subst hG
                go_wp2; exact ⟨_, rfl, rfl, rfl⟩
              refine ⟨fun wr hG hf _ => ?_, ?_⟩
              · skip
                replace hG : wr = wd := hG
                obtain ⟨hq0, hq1, -⟩ := hf
                obtain rfl : x2 = (.slice (some ad) l.length c : Value) := hq0
                obtain rfl : x3 = (.int .i64 x : Value) := hq1
                refine .inl ⟨by rfl, ?_⟩
                simp only [Reg.ung]
                subst hG
                go_wp2; exact ⟨_, rfl, rfl, rfl⟩
              refine ⟨fun wr hG hf _ => ?_, ?_⟩
              · skip
                replace hG : wr = wd := hG
                obtain ⟨hq0, -⟩ := hf
                obtain rfl : x4 = (.pointer (some (ad.add (x.toNat * 5))) : Value) := hq0
                refine .inl ⟨by rfl, ?_⟩
                simp only [Reg.ung]
                subst hG
                go_wp2; exact ⟨_, rfl, rfl, rfl⟩
              refine ⟨fun wr hG hf _ => ?_, ?_⟩
              · skip
                replace hG : wr = wd := hG
                obtain ⟨hq0, hq1, hq2, -⟩ := hf
                obtain rfl : x0 = (.pointer (some ⟨g, 0, none⟩) : Value) := hq0
                obtain rfl : x1 = (.agg #[.slice A' L.length c'] : Value) := hq1
                obtain rfl : x5 = (.agg #[.int .u8 y.f0, .string y.f1, .int .i64 y.f2, .int .i64 y.f3, .slice A4 y.f4.length c4] : Value) := hq2
                refine .inl ⟨by rfl, ?_⟩
                simp only [Reg.ung]
                subst hG
                go_wp2_with ((go_at_call 16; refine (do_any g b A' c' L y A4 c4 _ hP hLL hy.1 hy.2 hC4 hc4 hn4).mono ?_; rintro e w' ⟨A1, c1, L1, rfl, hP1, hg1, hle⟩)); exact ⟨_, rfl, ⟨A1, c1, L1⟩, ⟨hP1, hle, HB.grown hg1 HB.size (fun j hj => by cases hj; exact hbb), blk_grown hbk hg1 hbne⟩, rfl⟩
              refine ⟨fun γ d wr hG hf _ => ?_, ?_⟩
              · skip
                obtain ⟨A1, c1, L1⟩ := γ
                replace hG : Pl wr g b A1 c1 L1 ∧ L1.length ≤ L.length + 1 ∧ Below W0.heap.size W0 wr ∧ wr.heap[bx]? = some (.cells #[bif d then .slice A1 L1.length c1 else .slice A' L.length c'] 39 (0, 0)) := hG
                obtain ⟨hq0, -⟩ := hf
                obtain rfl : x6 = (.tuple #[.agg #[.slice A1 L1.length c1], .bool true] : Value) := hq0
                refine .inl ⟨by rfl, ?_⟩
                simp only [Reg.ung]
                go_wp2
                exact ⟨_, rfl, by simpa using hG, rfl⟩
              refine ⟨fun γ d wr hG hf _ => ?_, ?_⟩
              · skip
                obtain ⟨A1, c1, L1⟩ := γ
                replace hG : Pl wr g b A1 c1 L1 ∧ L1.length ≤ L.length + 1 ∧ Below W0.heap.size W0 wr ∧ wr.heap[bx]? = some (.cells #[bif d then .slice A1 L1.length c1 else .slice A' L.length c'] 39 (0, 0)) := hG
                obtain ⟨hq0, -⟩ := hf
                obtain rfl : x7 = (.tuple #[.agg #[.slice A1 L1.length c1], .bool true] : Value) := hq0
                refine .inl ⟨by rfl, ?_⟩
                simp only [Reg.ung]
                go_wp2
                exact ⟨_, rfl, by simpa using hG, rfl⟩
              refine ⟨fun γ d wr hG hf _ => ?_, ?_⟩
              · skip
                obtain ⟨A1, c1, L1⟩ := γ
                replace hG : Pl wr g b A1 c1 L1 ∧ L1.length ≤ L.length + 1 ∧ Below W0.heap.size W0 wr ∧ wr.heap[bx]? = some (.cells #[bif d then .slice A1 L1.length c1 else .slice A' L.length c'] 39 (0, 0)) := hG
                obtain ⟨hq0, -⟩ := hf
                obtain rfl : x7 = (.tuple #[.agg #[.slice A1 L1.length c1], .bool true] : Value) := hq0
                refine .inl ⟨by rfl, ?_⟩
                simp only [Reg.ung]
                go_wp2
                exact ⟨_, rfl, by simpa using hG, rfl⟩
              refine ⟨fun γ d wr hG hf _ => ?_, ?_⟩
              · skip
                obtain ⟨A1, c1, L1⟩ := γ
                replace hG : Pl wr g b A1 c1 L1 ∧ L1.length ≤ L.length + 1 ∧ Below W0.heap.size W0 wr ∧ wr.heap[bx]? = some (.cells #[bif d then .slice A1 L1.length c1 else .slice A' L.length c'] 39 (0, 0)) := hG
                obtain ⟨hq0, -, -, -, -, -, -, -, -, -, -, -⟩ := hf
                obtain rfl : x8 = (.agg #[.slice A1 L1.length c1] : Value) := hq0
                refine .inl ⟨by rfl, ?_⟩
                simp only [Reg.ung]
                obtain ⟨hP1, hle, hB1, hb1⟩ := hG; have cz := (blk_cell hb1 0).trans rfl; have fz := blk_frozen hb1 0; go_wp2; exact ⟨undef, rfl, ⟨hP1.set hb1 _, hle, hB1.setCell hbx _, by simpa using blk_set hb1 0 _⟩, trivial⟩
              exact trivial
            case he =>
              intro xs hl0_ γ wr hG hf
              obtain ⟨x0, xs1, rfl, hl1⟩ := Reg.len_succ hl0_
              obtain ⟨x1, xs2, rfl, hl2⟩ := Reg.len_succ hl1
              obtain ⟨x2, xs3, rfl, hl3⟩ := Reg.len_succ hl2
              obtain ⟨x3, xs4, rfl, hl4⟩ := Reg.len_succ hl3
              obtain ⟨x4, xs5, rfl, hl5⟩ := Reg.len_succ hl4
              obtain ⟨x5, xs6, rfl, hl6⟩ := Reg.len_succ hl5
              obtain ⟨x6, xs7, rfl, hl7⟩ := Reg.len_succ hl6
              obtain ⟨x7, xs8, rfl, hl8⟩ := Reg.len_succ hl7
              obtain ⟨x8, xs9, rfl, hl9⟩ := Reg.len_succ hl8
              obtain ⟨x9, xs10, rfl, hl10⟩ := Reg.len_succ hl9
              obtain ⟨x10, xs11, rfl, hl11⟩ := Reg.len_succ hl10
              obtain rfl := List.eq_nil_of_length_eq_zero hl11
              clear hl0_ hl1 hl2 hl3 hl4 hl5 hl6 hl7 hl8 hl9 hl10 hl11
              obtain ⟨A1, c1, L1⟩ := γ
              replace hG : Pl wr g b A1 c1 L1 ∧ L1.length ≤ L.length + 1 ∧ Below W0.heap.size W0 wr ∧ wr.heap[bx]? = some (.cells #[bif true then .slice A1 L1.length c1 else .slice A' L.length c'] 39 (0, 0)) := hG
              obtain ⟨hq0, hq1, hq2, hq3, hq4, hq5, hq6, hq7, hq8, hq9, hq10, -⟩ := hf
              obtain rfl : x0 = (.pointer (some ⟨g, 0, none⟩) : Value) := hq0
              obtain rfl : x1 = (.agg #[.slice A' L.length c'] : Value) := hq1
              obtain rfl : x2 = (.slice (some ad) l.length c : Value) := hq2
              obtain rfl : x3 = (.int .i64 x : Value) := hq3
              obtain rfl : x4 = (.pointer (some (ad.add (x.toNat * 5))) : Value) := hq4
              obtain rfl : x5 = (.agg #[.int .u8 y.f0, .string y.f1, .int .i64 y.f2, .int .i64 y.f3, .slice A4 y.f4.length c4] : Value) := hq5
              obtain rfl : x6 = (.tuple #[.agg #[.slice A1 L1.length c1], .bool true] : Value) := hq6
              obtain rfl : x7 = (.tuple #[.agg #[.slice A1 L1.length c1], .bool true] : Value) := hq7
              obtain rfl : x8 = (.agg #[.slice A1 L1.length c1] : Value) := hq8
              obtain rfl : x9 = (.bool true : Value) := hq9
              replace hq10 : True := hq10
              simp only [Reg.putL, Act.put, List.setIfInBounds_toArray, List.set_cons_succ, List.set_cons_zero]
              simp only [cond_true] at hG; obtain ⟨hP1, hle, hB1, hb1⟩ := hG
              obtain ⟨HP2, HLE2, HB2, HBK2⟩ : Aside0 (Pl wr g b A1 c1 L1) ∧ Aside0 (L1.length ≤ L.length + 1) ∧ Aside0 (Below W0.heap.size W0 wr) ∧ Aside0 (wr.heap[bx]? = some (.cells #[.slice A1 L1.length c1] 39 (0, 0))) := ⟨⟨hP1⟩, ⟨hle⟩, ⟨hB1⟩, ⟨hb1⟩⟩
              have cz1 := (blk_cell HBK2.out 0).trans rfl
              clear hP1 hle hB1 hb1
              go_wp2_with (fail)
              go_roundg k1
              case measure => omega
              case rel => exact ⟨x + 1, A1, c1, L1, rfl, ⟨by omega⟩, HP2, ⟨by have := HLE2.out; omega⟩, HB2, HBK2⟩
          · have hcb : decide (x < (l.length : Int)) = false := decide_eq_false hlt
            have hLn : L.length ≤ 1000000000 := by omega
            clear HI hx0 hxn hxk hlt hlx HLX hlb
            go_wp2_with (fail)
            clear hcb
            refine (fork_any g b L wr HP.out.1).mono ?_
            rintro e w5 ⟨f, bf, rfl, htf, htg, hb, hfn, hbfn⟩
            have hgt := HP.out.1.gt
            have HB5 := Aside0.mk (below_then HB.out HB.out.size hb)
            have HP5 := Aside0.mk (HP.out.below hb)
            have HBK5 := Aside0.mk (blk_below HBK.out hb)
            have HTF := Aside0.mk htf
            have hbfW : W0.heap.size ≤ bf := Nat.le_trans HB.out.size hbfn
            have hbxl := blk_lt HBK.out
            clear htf htg hb HP HB HBK hfn
            go_wp2_with (fail)
            refine (keep_any f bf L B q keys w5 HTF.out (Kd.C_below HKY.out HB5.out) hLn).mono ?_
            rintro e w6 ⟨rfl, ht, hg⟩
            have HTF6 := Aside0.mk ht
            have HB6 := Aside0.mk (HB5.out.grown hg HB5.out.size (fun j hj => by cases hj; exact hbfW))
            have HBK6 := Aside0.mk (blk_grown HBK5.out hg (fun e => by injection e with e; omega))
            have HTG6 := Aside0.mk (HP5.out.1.kept hg (fun e => by injection e with e; omega) (fun e => by injection e with e; omega))
            have HC6 := Aside0.mk (stays52.C (HTF.out.stays hg) HP5.out.2.1)
            have hcap := HP5.out.2.2.1
            have HK1 := Aside0.mk HP5.out.1.2.1
            have HSH := Aside0.mk HP5.out.1.2.2.1
            have cz := (blk_cell HBK6.out 0).trans rfl
            clear ht hg HTF HB5 HP5 HBK5 hgt hbfn hbxl
            obtain ⟨n, hn⟩ : ∃ n, n = L.length := ⟨_, rfl⟩
            obtain ⟨nk, hnk⟩ : ∃ nk, nk = keys.length := ⟨_, rfl⟩
            rw [← hn] at hcap cz HC6 HBK6 hLn ⊢
            rw [← hnk] at hln hq HKY ⊢
            have HN := Aside0.mk hn
            have HNK := Aside0.mk hnk
            have hm : (keepL L keys).length ≤ n := by rw [hn]; exact List.length_filter_le _ _
            obtain ⟨m, hme⟩ : ∃ m, m = (keepL L keys).length := ⟨_, rfl⟩
            rw [← hme] at hm ⊢
            have HM := Aside0.mk hme
            clear hn hnk hme
            go_wp2_with (fail)
            go_loopg [10, 11] (n + 1) (fun kq v10 v11 wr => ∃ x : Int, v10 = .int .i64 (((L.take x.toNat).filter fun y => inB keys y.f0).length : Int) ∧ v11 = .int .i64 x ∧ Aside0 (0 ≤ x ∧ x ≤ n ∧ x + kq = n + 1) ∧ Aside0 (Below w6.heap.size w6 wr))
            case atStart => exact ⟨0, by simp, rfl, ⟨by omega⟩, ⟨Below.refl _ _⟩⟩
            case round =>
              obtain ⟨x, rfl, rfl, HI, HW⟩ := hrel
              cases gk with
              | zero => exact absurd HI.out (by omega)
              | succ k1 =>
                obtain ⟨hx0, hxn, hxk⟩ := HI.out
                have hbk := blk_below HBK6.out HW.out
                have cz := (blk_cell hbk 0).trans rfl
                have hcm : ((L.take x.toNat).filter fun y => inB keys y.f0).length ≤ n := by
                  have h1 := List.length_filter_le (fun y : S52 => inB keys y.f0) (L.take x.toNat)
                  have h3 : (L.take x.toNat).length ≤ L.length := by rw [List.length_take]; exact Nat.min_le_right _ _
                  have := HN.out
                  omega
                obtain ⟨left, hlft⟩ : ∃ left, left = ((L.take x.toNat).filter fun y => inB keys y.f0).length := ⟨_, rfl⟩
                rw [← hlft] at hcm ⊢
                have HLF := Aside0.mk hlft
                clear hlft hbk
                by_cases hlt : x < (n : Int)
                · obtain ⟨ad, rfl, f0, f1⟩ := at_T52 HC6.out x hx0 hlt
                  have hj : x.toNat < L.length := by have := HN.out; omega
                  have hye : rd_T52 L x = L[x.toNat] := by simp [rd_T52, hj]
                  have hmem : rd_T52 L x ∈ L := by rw [hye]; exact List.getElem_mem hj
                  have HCNT := Aside0.mk (cnt_take (fun y : S52 => inB keys y.f0) hj)
                  rw [← hye] at HCNT
                  obtain ⟨y, hyd⟩ : ∃ y, y = rd_T52 L x := ⟨_, rfl⟩
                  rw [← hyd] at f0 f1 hmem HCNT
                  have hysz : y.f0.size ≤ maxLen := (HSH.out y hmem).1
                  have HHAS := Aside0.mk (keep_has (keys := keys) hmem)
                  have HAT := Aside0.mk (fun h => keep_at (keys := keys) HK1.out hmem h)
                  have f0' := (HW.out.cell (World.block_lt_of_cell? w6 _ f0)).trans f0
                  have F0 := Aside0.mk f0
                  have F1 := Aside0.mk f1
                  clear hye hmem hyd f0 f1 hj
                  go_wp2_with (fail)
                  refine (next_any f bf (keepL L keys) y.f0 wr (HTF6.out.below HW.out) hysz).mono ?_
                  rintro e w8 ⟨rfl, rfl⟩
                  rw [HHAS.out]
                  clear f0'
                  go_wp2_with (fail)
                  obtain ⟨w9, hw9⟩ : ∃ w9, w9 = w8 := ⟨_, rfl⟩
                  rw [← hw9] at HW cz ⊢
                  clear hw9
                  go_loopg [14, 15] (nk + 1) (fun kq v14 v15 wr => ∃ z : Int, v14 = .bool (inB (keys.take z.toNat) y.f0) ∧ v15 = .int .i64 z ∧ Aside0 (0 ≤ z ∧ z ≤ nk ∧ z + kq = nk + 1) ∧ Aside0 (Below w6.heap.size w6 wr))
                  case atStart => exact ⟨0, by simp [inB], rfl, ⟨by omega⟩, HW⟩
                  case round =>
                    clear HW cz
                    obtain ⟨z, rfl, rfl, HZ, HW⟩ := hrel
                    cases gk with
                    | zero => exact absurd HZ.out (by omega)
                    | succ k2 =>
                      obtain ⟨hz0, hzn, hzk⟩ := HZ.out
                      have hbk := blk_below HBK6.out HW.out
                      have cz := (blk_cell hbk 0).trans rfl
                      have f0 := (HW.out.cell (World.block_lt_of_cell? w6 _ F0.out)).trans F0.out
                      have f1 := (HW.out.cell (World.block_lt_of_cell? w6 _ F1.out)).trans F1.out
                      clear hbk
                      by_cases hzt : z < (nk : Int)
                      · obtain ⟨ak, rfl, hck⟩ := Kd.at_string HKY.out z hz0 hzt
                        have hjk : z.toNat < keys.length := by have := HNK.out; omega
                        have hze : rdOf ByteArray.empty keys z = keys[z.toNat] := by simp [rdOf, hjk]
                        have HTK := Aside0.mk (in_take (key := y.f0) hjk)
                        rw [← hze] at HTK
                        obtain ⟨sk, hsk⟩ : ∃ sk, sk = rdOf ByteArray.empty keys z := ⟨_, rfl⟩
                        rw [← hsk] at hck HTK
                        have hckr := (HB6.out.cell (World.block_lt_of_cell? W0 _ hck)).trans hck
                        have hckw := (HW.out.cell (World.block_lt_of_cell? w6 _ hckr)).trans hckr
                        clear hze hsk hck hckr hjk
                        cases hin : inB (keys.take z.toNat) y.f0 with
                        | true =>
                          go_wp2_with (fail)
                          go_quiet (fail)
                          go_wp2_with (fail)
                          go_roundg k2
                          case measure => omega
                          case rel => exact ⟨z + 1, by rw [show (z + 1).toNat = z.toNat + 1 by omega, HTK.out, hin]; rfl, rfl, ⟨by omega⟩, ⟨HW.out.trans ((Gr.below ⟨nq, #[], by rw [grow_empty]⟩ : Below wr.heap.size wr _).mono HW.out.size)⟩⟩
                        | false =>
                          go_wp2_with (fail)
                          go_quiet (fail)
                          go_wp2_with (fail)
                          go_roundg k2
                          case measure => omega
                          case rel => exact ⟨z + 1, by rw [show (z + 1).toNat = z.toNat + 1 by omega, HTK.out, hin, Bool.false_or]; exact congrArg Value.bool (beq_tl _ _), rfl, ⟨by omega⟩, ⟨HW.out.trans ((Gr.below ⟨nq, #[], by rw [grow_empty]⟩ : Below wr.heap.size wr _).mono HW.out.size)⟩⟩
                      · have hzb : decide (z < (nk : Int)) = false := decide_eq_false hzt
                        have hall : keys.take z.toNat = keys := List.take_of_length_le (by have := HNK.out; omega)
                        rw [hall]
                        clear HZ hz0 hzn hzk hzt hall
                        cases hin : inB keys y.f0 with
                        | true =>
                          have hat := HAT.out hin
                          rw [hat]
                          go_wp2_with (fail)
                          go_roundg k1
                          case measure => omega
                          case rel => exact ⟨x + 1, by rw [show (x + 1).toNat = x.toNat + 1 by omega, HCNT.out, ← HLF.out, hin]; simp, rfl, ⟨by omega⟩, HW⟩
                        | false =>
                          go_wp2_with (fail)
                          go_roundg k1
                          case measure => omega
                          case rel => exact ⟨x + 1, by rw [show (x + 1).toNat = x.toNat + 1 by omega, HCNT.out, ← HLF.out, hin]; simp, rfl, ⟨by omega⟩, HW⟩
                · have hcb : decide (x < (n : Int)) = false := decide_eq_false hlt
                  have hlm : left = m := by
                    rw [HLF.out, HM.out, List.take_of_length_le (by have := HN.out; omega)]
                    rfl
                  subst hlm
                  clear HI hx0 hxn hxk hlt HLF
                  go_wp2_with (fail)
                  refine (len_any f bf _ wr (HTF6.out.below HW.out)).mono ?_
                  rw [← HM.out]
                  rintro e w8 ⟨rfl, rfl⟩
                  go_wp2_with (fail)
                  refine (len_any g b _ w8 (HTG6.out.below HW.out)).mono ?_
                  rw [← HN.out]
                  rintro e w9 ⟨rfl, rfl⟩
                  go_wp2_with (fail)
                  refine (awake_any w9).mono ?_
                  rintro e w10 ⟨rfl, hb⟩
                  have HB10 := Aside0.mk (below_then (below_then HB6.out HB6.out.size HW.out) (Nat.le_trans HB6.out.size HW.out.size) hb)
                  clear hb
                  go_wp2_with (fail)
                  go_ret
                  exact ⟨rfl, HB10.out⟩
end Go.Proofs.Ytbocdfpgjkjilaa.T
