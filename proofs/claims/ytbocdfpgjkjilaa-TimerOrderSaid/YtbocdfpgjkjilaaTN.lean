/- TimerOrder in memory: what is due at a time is due later, too, and comes by rising times. -/
import Derived.Test.YtbocdfpgjkjilaaTK
set_option linter.unusedVariables false
set_option linter.unusedSimpArgs false
namespace Go.Proofs.Ytbocdfpgjkjilaa.T
open Go.RowKit Go.Maps Go.Sort Go.Shelf Go.Proofs.YtbocdfpgjkjilaaW.PrintWords Go.Proofs.Ytbocdfpgjkjilaa.PTimerPlays Go.Proofs.Ytbocdfpgjkjilaa.R Go.Proofs.Ytbocdfpgjkjilaa.Cells

/-- What is due sooner is the beginning of what is due later. -/
theorem due_prefix {now later : Int} (h : now ≤ later) : ∀ {L : List S52}, L.Pairwise ltX → ∃ r, dueL L later = dueL L now ++ r
  | [], _ => ⟨[], rfl⟩
  | x :: L, hs => by
    rw [List.pairwise_cons] at hs
    by_cases hx : x.f1 ≤ now
    · obtain ⟨r, hr⟩ := due_prefix h hs.2
      refine ⟨r, ?_⟩
      have e1 : dueL (x :: L) later = x.f0 :: dueL L later := by simp [dueL, show x.f1 ≤ later by omega]
      have e2 : dueL (x :: L) now = x.f0 :: dueL L now := by simp [dueL, hx]
      rw [e1, e2, hr]
      rfl
    · refine ⟨dueL (x :: L) later, ?_⟩
      have e2 : dueL (x :: L) now = [] := by
        unfold dueL
        rw [List.filter_eq_nil_iff.2]
        · rfl
        · intro y hy
          rcases List.mem_cons.1 hy with rfl | hy
          · simpa using hx
          · have := hs.1 y hy
            unfold ltX at this
            simp
            omega
      rw [e2]
      rfl
theorem due_len {now later : Int} {L : List S52} (h : now ≤ later) (hs : L.Pairwise ltX) : (dueL L now).length ≤ (dueL L later).length := by
  obtain ⟨r, hr⟩ := due_prefix h hs
  rw [hr]
  simp
theorem due_same {now later : Int} {L : List S52} (h : now ≤ later) (hs : L.Pairwise ltX) (x : Int) (h0 : 0 ≤ x) (h1 : x < (dueL L now).length) : rdOf ByteArray.empty (dueL L later) x = rdOf ByteArray.empty (dueL L now) x := by
  obtain ⟨r, hr⟩ := due_prefix h hs
  have hj : x.toNat < (dueL L now).length := by omega
  rw [hr]
  simp [rdOf, List.getElem?_append_left hj]
theorem due_at {later : Int} {L : List S52} (hk : Keys1 L) (x : Int) (h0 : 0 ≤ x) (h1 : x < (dueL L later).length) : ∃ y, (L.filter fun x => decide (x.f1 ≤ later))[x.toNat]? = some y ∧ rdOf ByteArray.empty (dueL L later) x = y.f0 ∧ y ∈ L ∧ tHas L y.f0 = true ∧ tAt L y.f0 = y.f1 ∧ y.f1 ≤ later := by
  have hj : x.toNat < (L.filter fun x => decide (x.f1 ≤ later)).length := by
    have : (dueL L later).length = (L.filter fun x => decide (x.f1 ≤ later)).length := by simp [dueL]
    omega
  refine ⟨(L.filter fun x => decide (x.f1 ≤ later))[x.toNat], List.getElem?_eq_getElem hj, ?_, ?_⟩
  · simp [rdOf, dueL, hj]
  · have hm := List.getElem_mem hj
    obtain ⟨h2, h3⟩ := List.mem_filter.1 hm
    refine ⟨h2, ?_, ?_, by simpa using h3⟩
    · exact List.any_eq_true.2 ⟨_, h2, by simp⟩
    · unfold tAt
      rw [find_perm_key hk _ _ h2 rfl]
theorem due_rise {later : Int} {L : List S52} (hs : L.Pairwise ltX) {i j : Nat} {y z : S52} (hij : i < j) (hy : (L.filter fun x => decide (x.f1 ≤ later))[i]? = some y) (hz : (L.filter fun x => decide (x.f1 ≤ later))[j]? = some z) : y.f1 ≤ z.f1 := by
  have hp : (L.filter fun x => decide (x.f1 ≤ later)).Pairwise ltX := hs.filter _
  obtain ⟨h1, rfl⟩ := List.getElem?_eq_some_iff.1 hy
  obtain ⟨h2, rfl⟩ := List.getElem?_eq_some_iff.1 hz
  have := List.pairwise_iff_getElem.1 hp i j h1 h2 hij
  unfold ltX at this
  omega

set_option maxHeartbeats 4000000 in
theorem order_any (A : Option Addr) (c : Nat) (l : List S44) (now later : Int) (W0 : World) (hl : Kd.C k44 W0 A l.length l) (hc : l.length ≤ c) (hok : ∀ y ∈ l, ActOk y) :
    Calls Try.prog 5 #[.slice A l.length c, .int .i64 now, .int .i64 later] W0 fun e w' => e = .returned (.bool true) ∧ Below W0.heap.size W0 w' := by
  have HL := Aside0.mk hl
  have HOK := Aside0.mk hok
  clear hl hok
  cases hf : fewB l with
  | false =>
    go_enter Try.func5, Try.ntmps5
    go_wp2_with (fail)
    refine (few_any A c l W0 HL.out hc).mono ?_
    rw [hf]
    rintro e w1 ⟨rfl, hb⟩
    have HB := Aside0.mk hb
    clear hb
    go_wp2_with (fail)
    refine (awake_any w1).mono ?_
    rintro e w2 ⟨rfl, hb⟩
    have HB2 := Aside0.mk (below_then HB.out HB.out.size hb)
    clear hb
    go_wp2_with (fail)
    go_ret
    exact ⟨rfl, HB2.out⟩
  | true =>
    obtain ⟨hlen, hks⟩ := fewB_len hf
    have HKS := Aside0.mk hks
    clear hks
    by_cases hln : later < now
    · have hlb : decide (later < now) = true := decide_eq_true hln
      go_enter Try.func5, Try.ntmps5
      go_wp2_with (fail)
      refine (few_any A c l W0 HL.out hc).mono ?_
      rw [hf]
      rintro e w1 ⟨rfl, hb⟩
      have HB := Aside0.mk hb
      clear hb
      go_wp2_with (fail)
      refine (awake_any w1).mono ?_
      rintro e w2 ⟨rfl, hb⟩
      have HB2 := Aside0.mk (below_then HB.out HB.out.size hb)
      clear hb
      go_wp2_with (fail)
      go_ret
      exact ⟨rfl, HB2.out⟩
    · have hlb : decide (later < now) = false := decide_eq_false hln
      go_enter Try.func5, Try.ntmps5
      go_wp2_with (fail)
      refine (few_any A c l W0 HL.out hc).mono ?_
      rw [hf]
      rintro e w1 ⟨rfl, hb⟩
      have HB := Aside0.mk hb
      clear hb hf
      go_wp2_with (fail)
      refine (new_any w1).mono ?_
      rintro e w2 ⟨g, b, rfl, ht, hb, hgg, hbb0⟩
      have HT := Aside0.mk ht
      have hbb : W0.heap.size ≤ b := Nat.le_trans HB.out.size hbb0
      have HB2 := Aside0.mk (below_then HB.out HB.out.size hb)
      clear ht hb hgg hbb0 HB
      go_wp2_with (fail)
      have HBK0 := Aside0.mk (blk_new w2 (Obj.cells #[Value.slice none 0 0] 39 (0, 0)))
      have HP0 := Aside0.mk ((pl_nil HT.out).below (below_alloc (Below.refl _ _) (Obj.cells #[Value.slice none 0 0] 39 (0, 0))))
      have HB3 := Aside0.mk (HB2.out.alloc HB2.out.size (Obj.cells #[Value.slice none 0 0] 39 (0, 0)))
      have hbx0 : W0.heap.size ≤ w2.heap.size := HB2.out.size
      obtain ⟨bx, hbxe⟩ : ∃ bx, bx = w2.heap.size := ⟨_, rfl⟩
      obtain ⟨w3, hw3⟩ : ∃ w3, w3 = w2.alloc (Obj.cells #[Value.slice none 0 0] 39 (0, 0)) := ⟨_, rfl⟩
      rw [← hw3] at HBK0 HP0 HB3
      rw [← hbxe] at HBK0 hbx0
      have hbx : W0.heap.size ≤ bx := hbx0
      try rw [← hw3]
      rw [← hbxe]
      clear hbxe hw3 HT HB2 hbx0
      go_loopg [9] (l.length + 1) (fun kq v9 wr => ∃ (x : Int) (A' : Option Addr) (c' : Nat) (L : List S52), v9 = .int .i64 x ∧ Aside0 (0 ≤ x ∧ x ≤ l.length ∧ x + kq = l.length + 1) ∧ Aside0 (Pl wr g b A' c' L) ∧ Aside0 (L.length ≤ x) ∧
        Aside0 (Below W0.heap.size W0 wr) ∧ Aside0 (wr.heap[bx]? = some (.cells #[.slice A' L.length c'] 39 (0, 0))))
      case atStart => exact ⟨0, none, 0, [], rfl, ⟨by omega⟩, HP0, ⟨by simp⟩, HB3, HBK0⟩
      case round =>
        clear HP0 HB3 HBK0
        obtain ⟨x, A', c', L, rfl, HI, HP, HLX, HB, HBK⟩ := hrel
        cases gk with
        | zero => exact absurd HI.out (by omega)
        | succ k1 =>
          obtain ⟨hx0, hxn, hxk⟩ := HI.out
          have hlx := HLX.out
          by_cases hlt : x < (l.length : Int)
          · skip
            obtain ⟨ad, A4, c4, hA, f0, f1, f2, f3, f4, hc4, hC4⟩ := at_T44 HL.out x hx0 hlt
            subst hA
            have hmem : rd_T44 l x ∈ l := by
              have hj : x.toNat < l.length := by omega
              have e : rd_T44 l x = l[x.toNat] := by simp [rd_T44, hj]
              rw [e]; exact List.getElem_mem hj
            obtain ⟨y, hye⟩ : ∃ y, y = rd_T44 l x := ⟨_, rfl⟩
            rw [← hye] at f0 f1 f2 f3 f4 hc4 hC4 hmem
            have hy := HOK.out y hmem
            have hn4 : y.f4.length ≤ 1000000000 := Nat.le_trans (HKS.out y hmem) (by decide)
            clear hye hmem
            obtain ⟨wd, hwd⟩ : ∃ wd, wd = wr.drew := ⟨_, rfl⟩
            have HD := Aside0.mk (show Below wr.heap.size wr wd by rw [hwd]; exact (Below.refl _ _).drew)
            have HWD := Aside0.mk hwd
            clear hwd
            go_wp2_with (fail)
            have HBd := Aside0.mk (below_then HB.out HB.out.size HD.out)
            have hP := HP.out.below HD.out
            have hB := HBd.out
            replace f0 := (hB.cell (World.block_lt_of_cell? W0 _ f0)).trans f0
            replace f1 := (hB.cell (World.block_lt_of_cell? W0 _ f1)).trans f1
            replace f2 := (hB.cell (World.block_lt_of_cell? W0 _ f2)).trans f2
            replace f3 := (hB.cell (World.block_lt_of_cell? W0 _ f3)).trans f3
            replace f4 := (hB.cell (World.block_lt_of_cell? W0 _ f4)).trans f4
            replace hC4 := Kd.C_below hC4 hB
            have hbk := blk_below HBK.out HD.out
            have cz := (blk_cell hbk 0).trans rfl
            have hLL : L.length < 1000000000 := by omega
            have hbne : some bx ≠ some b := fun e => (hP.1.far hbk (by decide)).2 (by injection e with e; exact e.symm)
            have HB := hB
            clear HI HP HLX HBd HBK HD hB
            refine Reg.region_pivot (Γ := (Option Addr) × (Nat) × (List S52)) hmix [some 35, some 36, some 37, some 38, some 39, some 40, some 41, some 34, some 42, some 43, none] [[], [], [], [], [2, 3], [4], [0, 1, 5], [6], [7], [7], [8, 6, 0, 1, 2, 3, 4, 5, 6, 7, 8]] 6 10 [0, 1, 2, 3, 4, 5] (fun w => w = wd) (fun γ d w => Pl w g b γ.1 γ.2.1 γ.2.2 ∧ γ.2.2.length ≤ L.length + 1 ∧ Below W0.heap.size W0 w ∧ w.heap[bx]? = some (.cells #[bif d then .slice γ.1 γ.2.2.length γ.2.1 else .slice A' L.length c'] 39 (0, 0))) [(fun v => v = (.pointer (some ⟨g, 0, none⟩) : Value)), (fun v => v = (.agg #[.slice A' L.length c'] : Value)), (fun v => v = (.slice (some ad) l.length c : Value)), (fun v => v = (.int .i64 x : Value)), (fun v => v = (.pointer (some (ad.add (x.toNat * 5))) : Value)), (fun v => v = (.agg #[.int .u8 y.f0, .string y.f1, .int .i64 y.f2, .int .i64 y.f3, .slice A4 y.f4.length c4] : Value)), (fun _ => False), (fun _ => False), (fun _ => False), (fun _ => False), (fun _ => False)] (fun γ => [(fun v => v = (.pointer (some ⟨g, 0, none⟩) : Value)), (fun v => v = (.agg #[.slice A' L.length c'] : Value)), (fun v => v = (.slice (some ad) l.length c : Value)), (fun v => v = (.int .i64 x : Value)), (fun v => v = (.pointer (some (ad.add (x.toNat * 5))) : Value)), (fun v => v = (.agg #[.int .u8 y.f0, .string y.f1, .int .i64 y.f2, .int .i64 y.f3, .slice A4 y.f4.length c4] : Value)), (fun v => v = (.tuple #[.agg #[.slice γ.1 γ.2.2.length γ.2.1], .bool true] : Value)), (fun v => v = (.tuple #[.agg #[.slice γ.1 γ.2.2.length γ.2.1], .bool true] : Value)), (fun v => v = (.agg #[.slice γ.1 γ.2.2.length γ.2.1] : Value)), (fun v => v = (.bool true : Value)), (fun v => True)]) rfl (by kernel_rfl) (by kernel_rfl) (fun γ => Reg.imp_cons (fun _ h => h) (Reg.imp_cons (fun _ h => h) (Reg.imp_cons (fun _ h => h) (Reg.imp_cons (fun _ h => h) (Reg.imp_cons (fun _ h => h) (Reg.imp_cons (fun _ h => h) (Reg.imp_cons (fun _ h => h.elim) (Reg.imp_cons (fun _ h => h.elim) (Reg.imp_cons (fun _ h => h.elim) (Reg.imp_cons (fun _ h => h.elim) (Reg.imp_cons (fun _ h => h.elim) (Reg.imp_nil (γ := True))))))))))))) (HWD.out.symm) ?hs ?he
            case hs =>
              intro xs0 xs hx0 hl0_
              clear hx0
              obtain ⟨x0, xs1, rfl, hl1⟩ := Reg.len_succ hl0_
              obtain ⟨x1, xs2, rfl, hl2⟩ := Reg.len_succ hl1
              obtain ⟨x2, xs3, rfl, hl3⟩ := Reg.len_succ hl2
              obtain ⟨x3, xs4, rfl, hl4⟩ := Reg.len_succ hl3
              obtain ⟨x4, xs5, rfl, hl5⟩ := Reg.len_succ hl4
              obtain ⟨x5, xs6, rfl, hl6⟩ := Reg.len_succ hl5
              obtain ⟨x6, xs7, rfl, hl7⟩ := Reg.len_succ hl6
              obtain ⟨x7, xs8, rfl, hl8⟩ := Reg.len_succ hl7
              obtain ⟨x8, xs9, rfl, hl9⟩ := Reg.len_succ hl8
              obtain ⟨x9, xs10, rfl, hl10⟩ := Reg.len_succ hl9
              obtain ⟨x10, xs11, rfl, hl11⟩ := Reg.len_succ hl10
              obtain rfl := List.eq_nil_of_length_eq_zero hl11
              clear hl0_ hl1 hl2 hl3 hl4 hl5 hl6 hl7 hl8 hl9 hl10 hl11
              simp only [Reg.putL, Act.put, List.setIfInBounds_toArray, List.set_cons_succ, List.set_cons_zero]
              refine ⟨fun wr hG hf _ => ?_, ?_⟩
              · skip
                replace hG : wr = wd := hG
                clear hf
                refine .inl ⟨by rfl, ?_⟩
                simp only [Reg.ung]
                subst hG
                go_wp2; exact ⟨_, rfl, rfl, rfl⟩
              refine ⟨fun wr hG hf _ => ?_, ?_⟩
              · skip
                replace hG : wr = wd := hG
                clear hf
                refine .inl ⟨by rfl, ?_⟩
                simp only [Reg.ung]
                subst hG
                go_wp2; exact ⟨_, rfl, rfl, rfl⟩
              refine ⟨fun wr hG hf _ => ?_, ?_⟩
              · skip
                replace hG : wr = wd := hG
                clear hf
                refine .inl ⟨by rfl, ?_⟩
                simp only [Reg.ung]
                subst hG
                go_wp2; exact ⟨_, rfl, rfl, rfl⟩
              refine ⟨fun wr hG hf _ => ?_, ?_⟩
              · skip
                replace hG : wr = wd := hG
                clear hf
                refine .inl ⟨by rfl, ?_⟩
                simp only [Reg.ung]
                subst hG
                go_wp2; exact ⟨_, rfl, rfl, rfl⟩
              refine ⟨fun wr hG hf _ => ?_, ?_⟩
              · skip
                replace hG : wr = wd := hG
                obtain ⟨hq0, hq1, -⟩ := hf
                obtain rfl : x2 = (.slice (some ad) l.length c : Value) := hq0
                obtain rfl : x3 = (.int .i64 x : Value) := hq1
                refine .inl ⟨by rfl, ?_⟩
                simp only [Reg.ung]
                subst hG
                go_wp2; exact ⟨_, rfl, rfl, rfl⟩
              refine ⟨fun wr hG hf _ => ?_, ?_⟩
              · skip
                replace hG : wr = wd := hG
                obtain ⟨hq0, -⟩ := hf
                obtain rfl : x4 = (.pointer (some (ad.add (x.toNat * 5))) : Value) := hq0
                refine .inl ⟨by rfl, ?_⟩
                simp only [Reg.ung]
                subst hG
                go_wp2; exact ⟨_, rfl, rfl, rfl⟩
              refine ⟨fun wr hG hf _ => ?_, ?_⟩
              · skip
                replace hG : wr = wd := hG
                obtain ⟨hq0, hq1, hq2, -⟩ := hf
                obtain rfl : x0 = (.pointer (some ⟨g, 0, none⟩) : Value) := hq0
                obtain rfl : x1 = (.agg #[.slice A' L.length c'] : Value) := hq1
                obtain rfl : x5 = (.agg #[.int .u8 y.f0, .string y.f1, .int .i64 y.f2, .int .i64 y.f3, .slice A4 y.f4.length c4] : Value) := hq2
                refine .inl ⟨by rfl, ?_⟩
                simp only [Reg.ung]
                subst hG
                go_wp2_with ((go_at_call 16; refine (do_any g b A' c' L y A4 c4 _ hP hLL hy.1 hy.2 hC4 hc4 hn4).mono ?_; rintro e w' ⟨A1, c1, L1, rfl, hP1, hg1, hle⟩)); exact ⟨_, rfl, ⟨A1, c1, L1⟩, ⟨hP1, hle, HB.grown hg1 HB.size (fun j hj => by cases hj; exact hbb), blk_grown hbk hg1 hbne⟩, rfl⟩
              refine ⟨fun γ d wr hG hf _ => ?_, ?_⟩
              · skip
                obtain ⟨A1, c1, L1⟩ := γ
                replace hG : Pl wr g b A1 c1 L1 ∧ L1.length ≤ L.length + 1 ∧ Below W0.heap.size W0 wr ∧ wr.heap[bx]? = some (.cells #[bif d then .slice A1 L1.length c1 else .slice A' L.length c'] 39 (0, 0)) := hG
                obtain ⟨hq0, -⟩ := hf
                obtain rfl : x6 = (.tuple #[.agg #[.slice A1 L1.length c1], .bool true] : Value) := hq0
                refine .inl ⟨by rfl, ?_⟩
                simp only [Reg.ung]
                go_wp2
                exact ⟨_, rfl, by simpa using hG, rfl⟩
              refine ⟨fun γ d wr hG hf _ => ?_, ?_⟩
              · skip
                obtain ⟨A1, c1, L1⟩ := γ
                replace hG : Pl wr g b A1 c1 L1 ∧ L1.length ≤ L.length + 1 ∧ Below W0.heap.size W0 wr ∧ wr.heap[bx]? = some (.cells #[bif d then .slice A1 L1.length c1 else .slice A' L.length c'] 39 (0, 0)) := hG
                obtain ⟨hq0, -⟩ := hf
                obtain rfl : x7 = (.tuple #[.agg #[.slice A1 L1.length c1], .bool true] : Value) := hq0
                refine .inl ⟨by rfl, ?_⟩
                simp only [Reg.ung]
                go_wp2
                exact ⟨_, rfl, by simpa using hG, rfl⟩
              refine ⟨fun γ d wr hG hf _ => ?_, ?_⟩
              · skip
                obtain ⟨A1, c1, L1⟩ := γ
                replace hG : Pl wr g b A1 c1 L1 ∧ L1.length ≤ L.length + 1 ∧ Below W0.heap.size W0 wr ∧ wr.heap[bx]? = some (.cells #[bif d then .slice A1 L1.length c1 else .slice A' L.length c'] 39 (0, 0)) := hG
                obtain ⟨hq0, -⟩ := hf
                obtain rfl : x7 = (.tuple #[.agg #[.slice A1 L1.length c1], .bool true] : Value) := hq0
                refine .inl ⟨by rfl, ?_⟩
                simp only [Reg.ung]
                go_wp2
                exact ⟨_, rfl, by simpa using hG, rfl⟩
              refine ⟨fun γ d wr hG hf _ => ?_, ?_⟩
              · skip
                obtain ⟨A1, c1, L1⟩ := γ
                replace hG : Pl wr g b A1 c1 L1 ∧ L1.length ≤ L.length + 1 ∧ Below W0.heap.size W0 wr ∧ wr.heap[bx]? = some (.cells #[bif d then .slice A1 L1.length c1 else .slice A' L.length c'] 39 (0, 0)) := hG
                obtain ⟨hq0, -, -, -, -, -, -, -, -, -, -, -⟩ := hf
                obtain rfl : x8 = (.agg #[.slice A1 L1.length c1] : Value) := hq0
                refine .inl ⟨by rfl, ?_⟩
                simp only [Reg.ung]
                obtain ⟨hP1, hle, hB1, hb1⟩ := hG; have cz := (blk_cell hb1 0).trans rfl; have fz := blk_frozen hb1 0; go_wp2; exact ⟨undef, rfl, ⟨hP1.set hb1 _, hle, hB1.setCell hbx _, by simpa using blk_set hb1 0 _⟩, trivial⟩
              exact trivial
            case he =>
              intro xs hl0_ γ wr hG hf
              obtain ⟨x0, xs1, rfl, hl1⟩ := Reg.len_succ hl0_
              obtain ⟨x1, xs2, rfl, hl2⟩ := Reg.len_succ hl1
              obtain ⟨x2, xs3, rfl, hl3⟩ := Reg.len_succ hl2
              obtain ⟨x3, xs4, rfl, hl4⟩ := Reg.len_succ hl3
              obtain ⟨x4, xs5, rfl, hl5⟩ := Reg.len_succ hl4
              obtain ⟨x5, xs6, rfl, hl6⟩ := Reg.len_succ hl5
              obtain ⟨x6, xs7, rfl, hl7⟩ := Reg.len_succ hl6
              obtain ⟨x7, xs8, rfl, hl8⟩ := Reg.len_succ hl7
              obtain ⟨x8, xs9, rfl, hl9⟩ := Reg.len_succ hl8
              obtain ⟨x9, xs10, rfl, hl10⟩ := Reg.len_succ hl9
              obtain ⟨x10, xs11, rfl, hl11⟩ := Reg.len_succ hl10
              obtain rfl := List.eq_nil_of_length_eq_zero hl11
              clear hl0_ hl1 hl2 hl3 hl4 hl5 hl6 hl7 hl8 hl9 hl10 hl11
              obtain ⟨A1, c1, L1⟩ := γ
              replace hG : Pl wr g b A1 c1 L1 ∧ L1.length ≤ L.length + 1 ∧ Below W0.heap.size W0 wr ∧ wr.heap[bx]? = some (.cells #[bif true then .slice A1 L1.length c1 else .slice A' L.length c'] 39 (0, 0)) := hG
              obtain ⟨hq0, hq1, hq2, hq3, hq4, hq5, hq6, hq7, hq8, hq9, hq10, -⟩ := hf
              obtain rfl : x0 = (.pointer (some ⟨g, 0, none⟩) : Value) := hq0
              obtain rfl : x1 = (.agg #[.slice A' L.length c'] : Value) := hq1
              obtain rfl : x2 = (.slice (some ad) l.length c : Value) := hq2
              obtain rfl : x3 = (.int .i64 x : Value) := hq3
              obtain rfl : x4 = (.pointer (some (ad.add (x.toNat * 5))) : Value) := hq4
              obtain rfl : x5 = (.agg #[.int .u8 y.f0, .string y.f1, .int .i64 y.f2, .int .i64 y.f3, .slice A4 y.f4.length c4] : Value) := hq5
              obtain rfl : x6 = (.tuple #[.agg #[.slice A1 L1.length c1], .bool true] : Value) := hq6
              obtain rfl : x7 = (.tuple #[.agg #[.slice A1 L1.length c1], .bool true] : Value) := hq7
              obtain rfl : x8 = (.agg #[.slice A1 L1.length c1] : Value) := hq8
              obtain rfl : x9 = (.bool true : Value) := hq9
              replace hq10 : True := hq10
              simp only [Reg.putL, Act.put, List.setIfInBounds_toArray, List.set_cons_succ, List.set_cons_zero]
              simp only [cond_true] at hG; obtain ⟨hP1, hle, hB1, hb1⟩ := hG
              obtain ⟨HP2, HLE2, HB2, HBK2⟩ : Aside0 (Pl wr g b A1 c1 L1) ∧ Aside0 (L1.length ≤ L.length + 1) ∧ Aside0 (Below W0.heap.size W0 wr) ∧ Aside0 (wr.heap[bx]? = some (.cells #[.slice A1 L1.length c1] 39 (0, 0))) := ⟨⟨hP1⟩, ⟨hle⟩, ⟨hB1⟩, ⟨hb1⟩⟩
              have cz1 := (blk_cell HBK2.out 0).trans rfl
              clear hP1 hle hB1 hb1
              go_wp2_with (fail)
              go_roundg k1
              case measure => omega
              case rel => exact ⟨x + 1, A1, c1, L1, rfl, ⟨by omega⟩, HP2, ⟨by have := HLE2.out; omega⟩, HB2, HBK2⟩
          · have hcb : decide (x < (l.length : Int)) = false := decide_eq_false hlt
            have hLn : L.length ≤ 1000000000 := by omega
            clear HI hx0 hxn hxk hlt hlx HLX hlb
            go_wp2_with (fail)
            clear hcb
            refine (due_any g b L now wr HP.out.1 HP.out.2.2.2.1 hLn).mono ?_
            rintro e w5 ⟨v, rfl, hr, hb⟩
            obtain ⟨A1, q1, rfl, l1, r1⟩ := rrow hr
            have HB5 := Aside0.mk (below_then HB.out HB.out.size hb)
            have HP5 := Aside0.mk (HP.out.below hb)
            have HR1 := Aside0.mk r1
            clear hr hb r1
            go_wp2_with (fail)
            refine (due_any g b L later w5 HP5.out.1 HP5.out.2.2.2.1 hLn).mono ?_
            rintro e w6 ⟨v, rfl, hr, hb⟩
            obtain ⟨A2, q2, rfl, l2, r2⟩ := rrow hr
            have HB6 := Aside0.mk (below_then HB5.out HB5.out.size hb)
            have HP6 := Aside0.mk (HP5.out.below hb)
            have HR1' := Aside0.mk (Kd.C_below HR1.out hb)
            have HR2 := Aside0.mk r2
            clear hr hb r2
            have hdl := due_len (by omega : now ≤ later) HP6.out.2.2.2.1
            have hle := dueL_le (L := L) later hLn
            obtain ⟨na, hna⟩ : ∃ na, na = (dueL L now).length := ⟨_, rfl⟩
            obtain ⟨nb, hnb⟩ : ∃ nb, nb = (dueL L later).length := ⟨_, rfl⟩
            rw [← hna] at HR1' hdl ⊢
            rw [← hnb] at HR2 hdl hle ⊢
            have HNA := Aside0.mk hna
            have HNB := Aside0.mk hnb
            clear hna hnb HR1 HP HP5 HB HB5 l1 l2
            go_wp2_with (fail)
            go_loopg [12] (na + 1) (fun kq v wr => ∃ x : Int, v = .int .i64 x ∧ Aside0 (0 ≤ x ∧ x ≤ na ∧ x + kq = na + 1) ∧ Aside0 (Below w6.heap.size w6 wr))
            case atStart => exact ⟨0, rfl, ⟨by omega⟩, ⟨Below.refl _ _⟩⟩
            case round =>
              obtain ⟨x, rfl, HI, HW⟩ := hrel
              cases gk with
              | zero => exact absurd HI.out (by omega)
              | succ k1 =>
                obtain ⟨hx0, hxn, hxk⟩ := HI.out
                by_cases hlt : x < (na : Int)
                · obtain ⟨ad1, rfl, hc1⟩ := Kd.at_string HR1'.out x hx0 hlt
                  obtain ⟨ad2, rfl, hc2⟩ := Kd.at_string HR2.out x hx0 (by omega)
                  have hsame := due_same (by omega : now ≤ later) HP6.out.2.2.2.1 x hx0 (by rw [← HNA.out]; exact hlt)
                  rw [hsame] at hc2
                  obtain ⟨sx, hsx⟩ : ∃ sx, sx = rdOf ByteArray.empty (dueL L now) x := ⟨_, rfl⟩
                  rw [← hsx] at hc1 hc2
                  replace hc1 := (HW.out.cell (World.block_lt_of_cell? w6 _ hc1)).trans hc1
                  replace hc2 := (HW.out.cell (World.block_lt_of_cell? w6 _ hc2)).trans hc2
                  have hxb : x < (nb : Int) := by omega
                  have hge : decide ((nb : Int) ≤ x) = false := decide_eq_false (by omega)
                  clear hsame hsx
                  go_wp2_with (fail)
                  go_quiet (fail)
                  go_wp2_with (fail)
                  go_roundg k1
                  case measure => omega
                  case rel => exact ⟨x + 1, rfl, ⟨by omega⟩, ⟨(HW.out.trans ((Gr.below ⟨nq, #[], by rw [grow_empty]⟩ : Below wr.heap.size wr _).mono HW.out.size))⟩⟩
                · have hcb : decide (x < (na : Int)) = false := decide_eq_false hlt
                  go_wp2_with (fail)
                  clear HI hx0 hxn hxk hlt hcb
                  have HBr := Aside0.mk (below_then HB6.out HB6.out.size HW.out)
                  have HPr := Aside0.mk (HP6.out.below HW.out)
                  have HRr := Aside0.mk (Kd.C_below HR2.out HW.out)
                  clear HB6 HP6 HR2 HW HR1'
                  obtain ⟨w7, hw7⟩ : ∃ w7, w7 = wr := ⟨_, rfl⟩
                  rw [← hw7] at HBr HPr HRr ⊢
                  clear hw7
                  go_loopg [13, 14] (nb + 1) (fun kq v13 v14 wr => ∃ x last : Int, v13 = .int .i64 last ∧ v14 = .int .i64 x ∧ Aside0 (0 ≤ x ∧ x ≤ nb ∧ x + kq = nb + 1) ∧ Aside0 (wr = w7) ∧ Aside0 (∀ j y, x.toNat ≤ j → (L.filter fun x => decide (x.f1 ≤ later))[j]? = some y → last ≤ y.f1))
                  case atStart => exact ⟨0, 0, rfl, rfl, ⟨by omega⟩, ⟨rfl⟩, ⟨fun j y _ hy => HPr.out.2.2.2.2.2 y (List.mem_filter.1 (List.mem_of_getElem? hy)).1⟩⟩
                  case round =>
                    obtain ⟨x, last, rfl, rfl, HI, HW, HLA⟩ := hrel
                    obtain rfl := HW.out
                    clear HW
                    cases gk with
                    | zero => exact absurd HI.out (by omega)
                    | succ k1 =>
                      obtain ⟨hx0, hxn, hxk⟩ := HI.out
                      by_cases hlt : x < (nb : Int)
                      · obtain ⟨ad2, rfl, hc2⟩ := Kd.at_string HRr.out x hx0 hlt
                        obtain ⟨y, hy1, hy2, hy3, hy4, hy5, hy6⟩ := due_at (later := later) HPr.out.1.2.1 x hx0 (by rw [← HNB.out]; exact hlt)
                        rw [hy2] at hc2
                        have hysz : y.f0.size ≤ maxLen := (HPr.out.1.2.2.1 y hy3).1
                        have hn1 : decide (y.f1 < last) = false := decide_eq_false (by have := HLA.out _ y (Nat.le_refl _) hy1; omega)
                        have hn2 : decide (later < y.f1) = false := decide_eq_false (by omega)
                        have HN := Aside0.mk (next_any g b L y.f0 wr HPr.out.1 hysz)
                        rw [hy4, hy5] at HN
                        have HLA2 := Aside0.mk (show ∀ j z, (x + 1).toNat ≤ j → (L.filter fun x => decide (x.f1 ≤ later))[j]? = some z → y.f1 ≤ z.f1 from fun j z hj hz => due_rise HPr.out.2.2.2.1 (show x.toNat < j by omega) hy1 hz)
                        clear hy1 hy2 hy3 hy4 hy5 hy6 HLA
                        go_wp2_with (fail)
                        refine HN.out.mono ?_
                        rintro e w8 ⟨rfl, rfl⟩
                        clear HN
                        go_wp2_with (fail)
                        go_roundg k1
                        case measure => omega
                        case rel => exact ⟨x + 1, y.f1, rfl, rfl, ⟨by omega⟩, ⟨rfl⟩, HLA2⟩
                      · have hcb : decide (x < (nb : Int)) = false := decide_eq_false hlt
                        clear HI hx0 hxn hxk hlt HLA
                        go_wp2_with (fail)
                        refine (awake_any wr).mono ?_
                        rintro e w8 ⟨rfl, hb⟩
                        have HB8 := Aside0.mk (below_then HBr.out HBr.out.size hb)
                        clear hb
                        go_wp2_with (fail)
                        go_ret
                        exact ⟨rfl, HB8.out⟩
end Go.Proofs.Ytbocdfpgjkjilaa.T
