/- Push of a queue that is not full: what it answers, what it leaves. -/
import Derived.Test.YtmifpookhhkgeaaDoorQF
set_option linter.unusedVariables false
set_option linter.unusedSimpArgs false
namespace Go.Proofs.YtmifpookhhkgeaaDoor.Q
open Go.RowKit Go.Lib Go.Proofs.YtmifpookhhkgeaaDoorW.PrintWords Go.Proofs.YtmifpookhhkgeaaDoorW.PrintMore Go.Proofs.YtmifpookhhkgeaaDoor.P Go.Proofs.YtmifpookhhkgeaaDoor.G
theorem grownBy_drew {w w' : World} {row : Option Nat} (h : w.grownBy w' row) : w.grownBy w'.drew row := ⟨h.os, h.tape, h.output, h.size, h.block⟩
theorem put_store {ops : Array Oper} {rest : List Oper} {o : Oper} {a : Act} {Q : Exit → Act → World → Prop} {W0 W : World} {g rb n c i : Nat} {lc : List S47} (y : S47) (p x : Operand) (hN : o.dst = none) (hgd : o.guard = none) (ho : o.op = .store 47 p x)
    (haddr : a.eval p = .pointer (some ⟨rb, i * 7, none⟩)) (hx : a.eval x = .agg (enc47 y).toArray) (HO : Kd.R k47 47 W W0.heap.size (fun k => k ≠ g) (.slice (some ⟨rb, 0, none⟩) n c) lc) (hi : i < n) (HB : Below W0.heap.size W0 W)
    (h : ∀ w1, Kd.R k47 47 w1 W0.heap.size (fun k => k ≠ g) (.slice (some ⟨rb, 0, none⟩) n c) (lc.set i y) → W.grownBy w1 (some rb) → wpList Tryd.prog ops Q rest a w1) : wpList Tryd.prog ops Q (o :: rest) a W := by
  obtain ⟨cc, hcl, hM, hcc, hcf⟩ := Kd.R_elem HO z47 (i : Int) (by omega) (by omega)
  have hsz : k47.sz = 7 := rfl
  have hd : cc.drop (0 + (enc47 y).length) = [] := List.drop_of_length_le (by rw [hcl, hsz]; simp [enc47])
  refine Kd.R_store k47 (w0 := W0) W0.heap.size hN hgd 47 p x ho 47 (g := rb) (n := n) (cap := c) (o' := i * 7) (i : Int) 0 lc y (.agg (enc47 y).toArray) (enc47 y) cc (fun k => k ≠ g) (fun _ => False) haddr (by rw [Int.toNat_natCast, hsz]; rfl) hx (by simp [Value.cells]) (by kernel_rfl) (fun q hq => by
    simp [enc47] at hq
    rcases hq with hq | hq | hq | hq | hq | hq | hq <;> rw [hq] <;> rfl) HO (by omega) (by omega) hcl hcc (by rw [hsz]; simp [enc47]) (by rw [hd, List.take_zero, List.nil_append, List.append_nil]; exact k47_mkM _ _ _ y) (fun _ hk => hk.elim) HB ?_
  intro w1 h1 h2 h3
  rw [Int.toNat_natCast] at h1
  exact h w1 h1 h3
theorem Ex.set {w w' : World} {g : Nat} {v v' : Value} (h : Ex w w' g v v') (i : Nat) (u : Value) : Ex w (w'.setCell ⟨g, i, none⟩ u) g v v' :=
  ⟨h.os, h.tape, h.output, ⟨by rw [size_set]; exact h.keep.1, fun k hk hg2 hr2 => by rw [Below.heap_setCell w' ⟨g, i, none⟩ _ k hg2]; exact h.keep.2 k hk hg2 hr2⟩, h.own⟩
theorem Ex.congr {w w' : World} {g : Nat} {v v' v2 : Value} (h : Ex w w' g v v') (he : v2.ownBlock = v'.ownBlock) : Ex w w' g v v2 := ⟨h.os, h.tape, h.output, h.keep, fun b hb => h.own b (he ▸ hb)⟩
/-- What Push leaves of items. -/
def pushL (l : List S47) (e : S27) (came : Int) : List S47 :=
  if idxK l e.f0 = -1 then l ++ [⟨e, 0, came⟩] else l.set (idxK l e.f0).toNat ⟨e, 0, came⟩
/-- Is an entry pushed? -/
def pushB (l : List S47) (e : S27) : Bool :=
  decide (checkC e = 0) && (decide (idxK l e.f0 = -1) || aboveB e (rd_T47 l (idxK l e.f0)).f0)
/-- What there is behind a push: l', lost'. -/
def PushN (l : List S47) (e : S27) (came lost : Int) (l' : List S47) (lost' : Int) : Prop :=
  if pushB l e then (if (pushL l e came).length ≤ 32 then l' = pushL l e came ∧ lost' = lost else ∃ s, s.Perm (pushL l e came) ∧ SortedQ s ∧ l' = s.take 32 ∧ lost' = lost + 1) else l' = l ∧ lost' = lost
def PushR (W0 w : World) (g : Nat) (v : Value) (l : List S47) (e : S27) (came lost : Int) (en : Ending) (w' : World) : Prop :=
  en = .returned (.bool (pushB l e)) ∧ ∃ v' l' lost', PushN l e came lost l' lost' ∧ Ex w w' g v v' ∧ Qv W0.heap.size w' g v' l' (if pushB l e then came + 1 else came) lost'
set_option maxHeartbeats 4000000 in
set_option maxRecDepth 100000 in
theorem push_all (g : Nat) (v : Value) (l : List S47) (came lost : Int) (e : S27) (W0 w : World) (h : Qv W0.heap.size w g v l came lost) (hB0 : Below W0.heap.size W0 w) (h8 : l.length ≤ 32) (hc0 : 0 ≤ came) (hc1 : came ≤ 1000000000) (hlo0 : 0 ≤ lost) (hlo1 : lost ≤ 1000000000) :
    Calls Tryd.prog 9 #[.pointer (some ⟨g, 0, none⟩), encE e] w (PushR W0 w g v l e came lost) := by
  unfold encE
  have HQ := Aside0.mk h
  obtain ⟨w2, hw2⟩ : ∃ w2, w2 = w.alloc (.cells #[.string e.f0, .int .i64 e.f1, .int .u16 e.f2, .string e.f3, .int .i64 e.f4] 27) := ⟨_, rfl⟩
  have hb2 : Below w.heap.size w w2 := by rw [hw2]; exact below_alloc (Below.refl _ w) _
  obtain ⟨bx, hbx⟩ : ∃ bx, bx = w.heap.size := ⟨_, rfl⟩
  have hbk : w2.heap[bx]? = some (.cells #[.string e.f0, .int .i64 e.f1, .int .u16 e.f2, .string e.f3, .int .i64 e.f4] 27 (0, 0)) := by rw [hw2, hbx]; exact heap_alloc_new w _
  have hech := echeck_any e w2
  unfold encE at hech
  obtain ⟨ck, hck⟩ : ∃ ck, ck = checkC e := ⟨_, rfl⟩
  rw [← hck] at hech
  have HCK := Aside0.mk hck
  have HEC := Aside0.mk hech
  have HB2 := Aside0.mk hb2
  have HBK := Aside0.mk hbk
  have E0 := (blk_cell hbk 0).trans rfl
  have E1 := (blk_cell hbk 1).trans rfl
  have E2 := (blk_cell hbk 2).trans rfl
  have E3 := (blk_cell hbk 3).trans rfl
  have E4 := (blk_cell hbk 4).trans rfl
  rw [hw2, hbx] at E0 E1 E2 E3 E4
  clear h hb2 hbk hech hck
  by_cases hck0 : ck = 0
  · have hk1 : (ck != 0) = false := by rw [hck0]; rfl
    have HCK0 := Aside0.mk (show checkC e = 0 by rw [← HCK.out]; exact hck0)
    go_enter Tryd.func9, Tryd.ntmps9
    go_wp2_with (fail)
    rw [← hw2, ← hbx]
    refine HEC.out.mono ?_
    rintro en w3 ⟨rfl, hb3⟩
    have HB3 := Aside0.mk (below_then HB2.out HB2.out.size hb3)
    have hQ3 := HQ.out.below HB3.out
    have hbk3 := (hb3.block _ (blk_lt HBK.out)).trans HBK.out
    obtain ⟨A, c, hv, hc, hC⟩ := hQ3.reads
    have hix := index_all A c l e.f0 bx w3 hC (fun h => by rw [← hv]; exact hQ3.nil h) ⟨_, hbk3, rfl⟩
    obtain ⟨n, hn⟩ : ∃ n, n = l.length := ⟨_, rfl⟩
    rw [← hn] at hv hix
    subst hv
    have q0 := (blk_cell hQ3.cell 0).trans rfl
    have HIX := Aside0.mk hix
    have HQ3 := Aside0.mk hQ3
    have HBK3 := Aside0.mk hbk3
    have HN := Aside0.mk hn
    have hbg : bx ≠ g := fun e => by have := HQ.out.lt; omega
    clear hb3 hQ3 hbk3 hc hC hix hn E0 E1 E2 E3 E4 hck0 hw2 hbx HEC HB2 HBK
    go_wp2_with (fail)
    refine HIX.out.mono ?_
    rintro en wb ⟨rfl, hb4⟩
    have HQB := Aside0.mk (HQ3.out.below hb4)
    have HXB := Aside0.mk (Ex.of_below (below_then HB3.out HB3.out.size hb4) g (.slice A n c))
    have HBKB := Aside0.mk ((hb4.block _ (blk_lt HBK3.out)).trans HBK3.out)
    have HBW := Aside0.mk (HXB.out.below HQ.out hB0)
    clear hb4 HIX HQ3 HBK3 q0
    rcases idxK_cases l e.f0 with ⟨hi, hno⟩ | ⟨i, hil, hi, hk, hbef⟩
    · have HI := Aside0.mk hi
      rw [hi]
      clear hi hno
      go_wp2_with (fail)
      refine Reg.region_list hmix [some 20, some 21, some 22, some 23, some 24, some 25, some 26, some 27, some 28, some 29, some 30, some 31, some 32, some 33, some 34, some 19] [[], [0], [1], [2], [2], [4, 2], [5, 2], [6, 2], [2], [7, 8, 2], [9, 2], [10, 2], [3, 11, 2, 2], [12, 2], [2, 13], [14, 12]] (fun w => Below wb.heap.size wb w) (fun w w' => Below w.heap.size w w') [(fun v w => v = (.int .i64 (-1) : Value)), (fun v w => v = (.bool false : Value)), (fun v w => v = (.bool false : Value)), (fun v w => v = (undef : Value)), (fun v w => v = (undef : Value)), (fun v w => v = (undef : Value)), (fun v w => v = (undef : Value)), (fun v w => v = (undef : Value)), (fun v w => v = (undef : Value)), (fun v w => v = (undef : Value)), (fun v w => v = (undef : Value)), (fun v w => v = (undef : Value)), (fun v w => v = (undef : Value)), (fun v w => v = (undef : Value)), (fun v w => v = (.bool false : Value)), (fun v w => v = (.bool false : Value))] rfl (by kernel_rfl) (by kernel_rfl) (fun w => Below.refl w.heap.size w) (fun _ _ hr => Reg.mono_cons (fun _ h => h) (Reg.mono_cons (fun _ h => h) (Reg.mono_cons (fun _ h => h) (Reg.mono_cons (fun _ h => h) (Reg.mono_cons (fun _ h => h) (Reg.mono_cons (fun _ h => h) (Reg.mono_cons (fun _ h => h) (Reg.mono_cons (fun _ h => h) (Reg.mono_cons (fun _ h => h) (Reg.mono_cons (fun _ h => h) (Reg.mono_cons (fun _ h => h) (Reg.mono_cons (fun _ h => h) (Reg.mono_cons (fun _ h => h) (Reg.mono_cons (fun _ h => h) (Reg.mono_cons (fun _ h => h) (Reg.mono_cons (fun _ h => h) (Reg.mono_nil))))))))))))))))) ((Below.refl _ _).drew) ?hs ?he
      case hs =>
        intro xs0 xs hx0 hl0_ wr hG
        clear hx0
        obtain ⟨x0, xs1, rfl, hl1⟩ := Reg.len_succ hl0_
        obtain ⟨x1, xs2, rfl, hl2⟩ := Reg.len_succ hl1
        obtain ⟨x2, xs3, rfl, hl3⟩ := Reg.len_succ hl2
        obtain ⟨x3, xs4, rfl, hl4⟩ := Reg.len_succ hl3
        obtain ⟨x4, xs5, rfl, hl5⟩ := Reg.len_succ hl4
        obtain ⟨x5, xs6, rfl, hl6⟩ := Reg.len_succ hl5
        obtain ⟨x6, xs7, rfl, hl7⟩ := Reg.len_succ hl6
        obtain ⟨x7, xs8, rfl, hl8⟩ := Reg.len_succ hl7
        obtain ⟨x8, xs9, rfl, hl9⟩ := Reg.len_succ hl8
        obtain ⟨x9, xs10, rfl, hl10⟩ := Reg.len_succ hl9
        obtain ⟨x10, xs11, rfl, hl11⟩ := Reg.len_succ hl10
        obtain ⟨x11, xs12, rfl, hl12⟩ := Reg.len_succ hl11
        obtain ⟨x12, xs13, rfl, hl13⟩ := Reg.len_succ hl12
        obtain ⟨x13, xs14, rfl, hl14⟩ := Reg.len_succ hl13
        obtain ⟨x14, xs15, rfl, hl15⟩ := Reg.len_succ hl14
        obtain ⟨x15, xs16, rfl, hl16⟩ := Reg.len_succ hl15
        obtain rfl := List.eq_nil_of_length_eq_zero hl16
        clear hl0_ hl1 hl2 hl3 hl4 hl5 hl6 hl7 hl8 hl9 hl10 hl11 hl12 hl13 hl14 hl15 hl16
        simp only [Reg.putL, Act.put, List.setIfInBounds_toArray, List.set_cons_succ, List.set_cons_zero]
        refine ⟨fun hf _ => ?_, ?_⟩
        · clear hf
          refine .inl ⟨by rfl, ?_⟩
          simp only [Reg.ung]
          go_wp2
          exact ⟨_, rfl, hG, (fun w => Below.refl w.heap.size w) _, rfl⟩
        refine ⟨fun hf _ => ?_, ?_⟩
        · obtain ⟨hq0, -⟩ := hf
          obtain rfl : x0 = _ := hq0
          refine .inl ⟨by rfl, ?_⟩
          simp only [Reg.ung]
          go_wp2
          exact ⟨_, rfl, hG, (fun w => Below.refl w.heap.size w) _, rfl⟩
        refine ⟨fun hf _ => ?_, ?_⟩
        · obtain ⟨hq0, -⟩ := hf
          obtain rfl : x1 = _ := hq0
          refine .inl ⟨by rfl, ?_⟩
          simp only [Reg.ung]
          go_wp2
          exact ⟨_, rfl, hG, (fun w => Below.refl w.heap.size w) _, rfl⟩
        refine ⟨fun hf _ => ?_, ?_⟩
        · obtain ⟨hq0, -⟩ := hf
          obtain rfl : x2 = _ := hq0
          exact .inr ⟨by rfl, rfl⟩
        refine ⟨fun hf _ => ?_, ?_⟩
        · obtain ⟨hq0, -⟩ := hf
          obtain rfl : x2 = _ := hq0
          exact .inr ⟨by rfl, rfl⟩
        refine ⟨fun hf _ => ?_, ?_⟩
        · obtain ⟨hq0, hq1, -⟩ := hf
          obtain rfl : x4 = _ := hq0
          obtain rfl : x2 = _ := hq1
          exact .inr ⟨by rfl, rfl⟩
        refine ⟨fun hf _ => ?_, ?_⟩
        · obtain ⟨hq0, hq1, -⟩ := hf
          obtain rfl : x5 = _ := hq0
          obtain rfl : x2 = _ := hq1
          exact .inr ⟨by rfl, rfl⟩
        refine ⟨fun hf _ => ?_, ?_⟩
        · obtain ⟨hq0, hq1, -⟩ := hf
          obtain rfl : x6 = _ := hq0
          obtain rfl : x2 = _ := hq1
          exact .inr ⟨by rfl, rfl⟩
        refine ⟨fun hf _ => ?_, ?_⟩
        · obtain ⟨hq0, -⟩ := hf
          obtain rfl : x2 = _ := hq0
          exact .inr ⟨by rfl, rfl⟩
        refine ⟨fun hf _ => ?_, ?_⟩
        · obtain ⟨hq0, hq1, hq2, -⟩ := hf
          obtain rfl : x7 = _ := hq0
          obtain rfl : x8 = _ := hq1
          obtain rfl : x2 = _ := hq2
          exact .inr ⟨by rfl, rfl⟩
        refine ⟨fun hf _ => ?_, ?_⟩
        · obtain ⟨hq0, hq1, -⟩ := hf
          obtain rfl : x9 = _ := hq0
          obtain rfl : x2 = _ := hq1
          exact .inr ⟨by rfl, rfl⟩
        refine ⟨fun hf _ => ?_, ?_⟩
        · obtain ⟨hq0, hq1, -⟩ := hf
          obtain rfl : x10 = _ := hq0
          obtain rfl : x2 = _ := hq1
          exact .inr ⟨by rfl, rfl⟩
        refine ⟨fun hf _ => ?_, ?_⟩
        · obtain ⟨hq0, hq1, hq2, -, -⟩ := hf
          obtain rfl : x3 = _ := hq0
          obtain rfl : x11 = _ := hq1
          obtain rfl : x2 = _ := hq2
          exact .inr ⟨by rfl, rfl⟩
        refine ⟨fun hf _ => ?_, ?_⟩
        · obtain ⟨hq0, hq1, -⟩ := hf
          obtain rfl : x12 = _ := hq0
          obtain rfl : x2 = _ := hq1
          exact .inr ⟨by rfl, rfl⟩
        refine ⟨fun hf _ => ?_, ?_⟩
        · obtain ⟨hq0, hq1, -⟩ := hf
          obtain rfl : x2 = _ := hq0
          obtain rfl : x13 = _ := hq1
          refine .inl ⟨by rfl, ?_⟩
          simp only [Reg.ung]
          go_wp2
          exact ⟨_, rfl, hG, (fun w => Below.refl w.heap.size w) _, rfl⟩
        refine ⟨fun hf _ => ?_, ?_⟩
        · obtain ⟨hq0, -, -⟩ := hf
          obtain rfl : x14 = _ := hq0
          refine .inl ⟨by rfl, ?_⟩
          simp only [Reg.ung]
          go_wp2
          exact ⟨_, rfl, hG, (fun w => Below.refl w.heap.size w) _, rfl⟩
        exact trivial
      case he =>
        intro xs hl0_ wr hG hf
        obtain ⟨x0, xs1, rfl, hl1⟩ := Reg.len_succ hl0_
        obtain ⟨x1, xs2, rfl, hl2⟩ := Reg.len_succ hl1
        obtain ⟨x2, xs3, rfl, hl3⟩ := Reg.len_succ hl2
        obtain ⟨x3, xs4, rfl, hl4⟩ := Reg.len_succ hl3
        obtain ⟨x4, xs5, rfl, hl5⟩ := Reg.len_succ hl4
        obtain ⟨x5, xs6, rfl, hl6⟩ := Reg.len_succ hl5
        obtain ⟨x6, xs7, rfl, hl7⟩ := Reg.len_succ hl6
        obtain ⟨x7, xs8, rfl, hl8⟩ := Reg.len_succ hl7
        obtain ⟨x8, xs9, rfl, hl9⟩ := Reg.len_succ hl8
        obtain ⟨x9, xs10, rfl, hl10⟩ := Reg.len_succ hl9
        obtain ⟨x10, xs11, rfl, hl11⟩ := Reg.len_succ hl10
        obtain ⟨x11, xs12, rfl, hl12⟩ := Reg.len_succ hl11
        obtain ⟨x12, xs13, rfl, hl13⟩ := Reg.len_succ hl12
        obtain ⟨x13, xs14, rfl, hl14⟩ := Reg.len_succ hl13
        obtain ⟨x14, xs15, rfl, hl15⟩ := Reg.len_succ hl14
        obtain ⟨x15, xs16, rfl, hl16⟩ := Reg.len_succ hl15
        obtain rfl := List.eq_nil_of_length_eq_zero hl16
        clear hl0_ hl1 hl2 hl3 hl4 hl5 hl6 hl7 hl8 hl9 hl10 hl11 hl12 hl13 hl14 hl15 hl16
        obtain ⟨hq0, hq1, hq2, hq3, hq4, hq5, hq6, hq7, hq8, hq9, hq10, hq11, hq12, hq13, hq14, hq15, -⟩ := hf
        obtain rfl : x0 = _ := hq0
        obtain rfl : x1 = _ := hq1
        obtain rfl : x2 = _ := hq2
        obtain rfl : x3 = _ := hq3
        obtain rfl : x4 = _ := hq4
        obtain rfl : x5 = _ := hq5
        obtain rfl : x6 = _ := hq6
        obtain rfl : x7 = _ := hq7
        obtain rfl : x8 = _ := hq8
        obtain rfl : x9 = _ := hq9
        obtain rfl : x10 = _ := hq10
        obtain rfl : x11 = _ := hq11
        obtain rfl : x12 = _ := hq12
        obtain rfl : x13 = _ := hq13
        obtain rfl : x14 = _ := hq14
        obtain rfl : x15 = _ := hq15
        simp only [Reg.putL, Act.put, List.setIfInBounds_toArray, List.set_cons_succ, List.set_cons_zero]
        have hQr := HQB.out.below hG
        have q0 := (blk_cell hQr.cell 0).trans rfl
        have qf := blk_frozen hQr.cell 0
        have HQR := Aside0.mk hQr
        have HBR := Aside0.mk (below_then HBW.out HBW.out.size hG)
        have HXR := Aside0.mk (HXB.out.trans (Ex.of_below hG g _))
        have HEB := Aside0.mk ((hG.block _ (blk_lt HBKB.out)).trans HBKB.out)
        have HNE := Aside0.mk (show ∀ k, wr.heap.size ≤ k → k ≠ g from fun k hk e2 => by have := HQR.out.lt; omega)
        have HROW := Aside0.mk (show some g ≠ (Value.slice A n c).ownBlock from fun e2 => (HQR.out.row.bound e2.symm).1 rfl)
        have HROB := Aside0.mk (show some bx ≠ (Value.slice A n c).ownBlock from fun e2 => by
          obtain ⟨_, _, _, cells, hc2⟩ := HQR.out.row.bound e2.symm
          rw [HEB.out] at hc2
          injection hc2 with hc2
          injection hc2 with _ hc2 _
          exact absurd hc2 (by decide))
        clear hQr hG
        go_wp2_with ((with_reducible refine gate_builtin (b := .append) (xs := #[.tmp 47, .tmp 49]) rfl ?_); at_builtin; refine WR_append (w0 := W0) W0.heap.size g rfl (.tmp 47) (.tmp 49) rfl (.slice A n c) l rfl rfl HNE.out HQR.out.row HBR.out HBR.out.size (by omega) ?_; intro v5 w5 ho5 hb5 hg5 hat5; obtain ⟨rb, cap, hv5, hrb5, hrok5, hrl5, hcl5⟩ := R_form ho5 (by simp); have qc5 := blk_grown HQR.out.cell hg5 HROW.out; have q05 := (blk_cell qc5 0).trans rfl; have qf5 := blk_frozen qc5 0; subst hv5; have HO5 := Aside0.mk ho5; have HB5 := Aside0.mk hb5; have HG5 := Aside0.mk hg5; have HAT5 := Aside0.mk hat5; have HQC5 := Aside0.mk qc5; have HCL5 := Aside0.mk hcl5; clear ho5 hb5 hg5 hat5 qc5 q0 qf hcl5)
        obtain ⟨m, hm⟩ : ∃ m, m = l.length + 1 := ⟨_, rfl⟩
        have hml : (l ++ [z47]).length = m := by rw [hm]; simp
        have HO5' := Aside0.mk (show Kd.R k47 47 w5 W0.heap.size (fun k => k ≠ g) (.slice (some ⟨rb, 0, none⟩) m cap) (l ++ [z47]) by have := HO5.out; rw [hml] at this; exact this)
        have HAT5' := Aside0.mk (show (Value.slice (some ⟨rb, 0, none⟩) m cap).ownBlock = (Value.slice A n c).ownBlock ∨ ∃ b, (Value.slice (some ⟨rb, 0, none⟩) m cap).ownBlock = some b ∧ wr.heap.size ≤ b by have := HAT5.out; rw [hml] at this; exact this)
        rw [← hm]
        obtain ⟨wb2, hwb2⟩ : ∃ wb2, wb2 = w5.setCell ⟨g, 0, none⟩ (.slice (some ⟨rb, 0, none⟩) m cap) := ⟨_, rfl⟩
        have QB : wb2.heap[g]? = some (.cells #[.slice (some ⟨rb, 0, none⟩) m cap, .int .i64 came, .int .i64 lost] 55 (0, 0)) := by rw [hwb2]; exact blk_put HQC5.out 0 _ rfl
        have EB : wb2.heap[bx]? = some (.cells #[.string e.f0, .int .i64 e.f1, .int .u16 e.f2, .string e.f3, .int .i64 e.f4] 27 (0, 0)) := by rw [hwb2]; exact blk_far (blk_grown HEB.out HG5.out HROB.out) (p := ⟨g, 0, none⟩) hbg _
        have HRX := Aside0.mk (show Kd.R k47 47 wb2 W0.heap.size (fun k => k ≠ g) (.slice (some ⟨rb, 0, none⟩) m cap) (l ++ [z47]) by rw [hwb2]; exact Kd.R_far HO5'.out (p := ⟨g, 0, none⟩) (fun k hk => hk) _)
        have HBW2 := Aside0.mk (show Below W0.heap.size W0 wb2 by rw [hwb2]; exact below_set HB5.out HQ.out.low)
        have HXW := Aside0.mk (show Ex w wb2 g (.slice A n c) (.slice (some ⟨rb, 0, none⟩) m cap) by
          have h1 : Ex wr w5 g (.slice A n c) (.slice (some ⟨rb, 0, none⟩) m cap) := ⟨HG5.out.os, HG5.out.tape, HG5.out.output, KeepBut.of_grown HG5.out g, fun b hb => by
            rcases HAT5'.out with h | ⟨b', h, hb'⟩
            · exact .inl (h.symm.trans hb)
            · rw [h] at hb; injection hb with hb; exact .inr (by omega)⟩
          have h2 := HXR.out.trans h1
          rw [hwb2]
          exact ⟨h2.os, h2.tape, h2.output, ⟨by rw [size_set]; exact h2.keep.1, fun k hk hg2 hr2 => by rw [Below.heap_setCell w5 ⟨g, 0, none⟩ _ k hg2]; exact h2.keep.2 k hk hg2 hr2⟩, h2.own⟩)
        have hgr : some g ≠ some rb := fun e2 => hrok5 (by injection e2 with e2; exact e2.symm)
        have hbr : some bx ≠ some rb := fun e2 => by
          injection e2 with e2
          obtain ⟨cells, hc2⟩ := HCL5.out
          have h3 := blk_grown HEB.out HG5.out HROB.out
          rw [e2, hc2] at h3
          injection h3 with h3
          injection h3 with _ h3 _
          exact absurd h3 (by decide)
        have hrbB : W0.heap.size ≤ rb := hrb5
        have HPB := Aside0.mk (show pushB l e = true by unfold pushB; rw [HCK0.out, HI.out]; simp)
        have HPL := Aside0.mk (show pushL l e came = (l ++ [z47]).set n ⟨e, 0, came⟩ by unfold pushL; rw [if_pos HI.out, HN.out]; simp)
        have hnm : n < m := by rw [hm, HN.out]; omega
        have HMM := Aside0.mk hm
        rw [← hwb2]
        clear hm hml hwb2 HO5 HAT5 HO5' HAT5' HQC5 HG5 HB5 q05 qf5 hrok5 hrl5
        refine Reg.region_list hmix [some 53, some 54, some 55, some 56, some 57, some 58, some 59, some 60, some 61, some 62, some 63, some 64, none] [[], [0], [1], [2], [], [], [], [6], [7], [8], [5, 9], [3, 4, 0, 1, 2, 3, 4, 5, 6, 7, 8, 9, 10], [11, 10, 0, 1, 2, 3, 4, 5, 6, 7, 8, 9, 10]] (fun w => wb2.grownBy w (some rb) ∧ ∃ lc, (lc = (l ++ [z47]) ∨ lc = (l ++ [z47]).set n ⟨e, 0, came⟩) ∧ Kd.R k47 47 w W0.heap.size (fun k => k ≠ g) (.slice (some ⟨rb, 0, none⟩) m cap) lc) (fun w w' => Kd.R k47 47 w W0.heap.size (fun k => k ≠ g) (.slice (some ⟨rb, 0, none⟩) m cap) ((l ++ [z47]).set n ⟨e, 0, came⟩) → Kd.R k47 47 w' W0.heap.size (fun k => k ≠ g) (.slice (some ⟨rb, 0, none⟩) m cap) ((l ++ [z47]).set n ⟨e, 0, came⟩)) [(fun v w => v = (.pointer (some ⟨g, 0, none⟩) : Value)), (fun v w => v = (.pointer (some ⟨g, 0, none⟩) : Value)), (fun v w => v = (.pointer (some ⟨g, 0, none⟩) : Value)), (fun v w => v = (.slice (some ⟨rb, 0, none⟩) m cap : Value)), (fun v w => v = (.int .i64 (n : Int) : Value)), (fun v w => v = (.agg #[.string e.f0, .int .i64 e.f1, .int .u16 e.f2, .string e.f3, .int .i64 e.f4] : Value)), (fun v w => v = (.pointer (some ⟨g, 0, none⟩) : Value)), (fun v w => v = (.pointer (some ⟨g, 0, none⟩) : Value)), (fun v w => v = (.pointer (some ⟨g, 1, none⟩) : Value)), (fun v w => v = (.int .i64 came : Value)), (fun v w => v = (.agg #[.string e.f0, .int .i64 e.f1, .int .u16 e.f2, .string e.f3, .int .i64 e.f4, .int .i64 0, .int .i64 came] : Value)), (fun v w => v = (.pointer (some ⟨rb, n * 7, none⟩) : Value)), (fun v w => Kd.R k47 47 w W0.heap.size (fun k => k ≠ g) (.slice (some ⟨rb, 0, none⟩) m cap) ((l ++ [z47]).set n ⟨e, 0, came⟩))] rfl (by kernel_rfl) (by kernel_rfl) (fun _ h => h) (fun _ _ hr => Reg.mono_cons (fun _ h => h) (Reg.mono_cons (fun _ h => h) (Reg.mono_cons (fun _ h => h) (Reg.mono_cons (fun _ h => h) (Reg.mono_cons (fun _ h => h) (Reg.mono_cons (fun _ h => h) (Reg.mono_cons (fun _ h => h) (Reg.mono_cons (fun _ h => h) (Reg.mono_cons (fun _ h => h) (Reg.mono_cons (fun _ h => h) (Reg.mono_cons (fun _ h => h) (Reg.mono_cons (fun _ h => h) (Reg.mono_cons (fun _ h => hr h) (Reg.mono_nil)))))))))))))) (⟨grownBy_drew (grownBy_refl wb2 _), (l ++ [z47]), .inl rfl, Kd.R_drew HRX.out⟩) ?hs ?he
        case hs =>
          intro xs0 xs hx0 hl0_ wr hG
          clear hx0
          obtain ⟨x0, xs1, rfl, hl1⟩ := Reg.len_succ hl0_
          obtain ⟨x1, xs2, rfl, hl2⟩ := Reg.len_succ hl1
          obtain ⟨x2, xs3, rfl, hl3⟩ := Reg.len_succ hl2
          obtain ⟨x3, xs4, rfl, hl4⟩ := Reg.len_succ hl3
          obtain ⟨x4, xs5, rfl, hl5⟩ := Reg.len_succ hl4
          obtain ⟨x5, xs6, rfl, hl6⟩ := Reg.len_succ hl5
          obtain ⟨x6, xs7, rfl, hl7⟩ := Reg.len_succ hl6
          obtain ⟨x7, xs8, rfl, hl8⟩ := Reg.len_succ hl7
          obtain ⟨x8, xs9, rfl, hl9⟩ := Reg.len_succ hl8
          obtain ⟨x9, xs10, rfl, hl10⟩ := Reg.len_succ hl9
          obtain ⟨x10, xs11, rfl, hl11⟩ := Reg.len_succ hl10
          obtain ⟨x11, xs12, rfl, hl12⟩ := Reg.len_succ hl11
          obtain ⟨x12, xs13, rfl, hl13⟩ := Reg.len_succ hl12
          obtain rfl := List.eq_nil_of_length_eq_zero hl13
          clear hl0_ hl1 hl2 hl3 hl4 hl5 hl6 hl7 hl8 hl9 hl10 hl11 hl12 hl13
          simp only [Reg.putL, Act.put, List.setIfInBounds_toArray, List.set_cons_succ, List.set_cons_zero]
          have q0 := (blk_cell (blk_grown QB hG.1 hgr) 0).trans rfl; have q1 := (blk_cell (blk_grown QB hG.1 hgr) 1).trans rfl; have e0 := (blk_cell (blk_grown EB hG.1 hbr) 0).trans rfl; have e1 := (blk_cell (blk_grown EB hG.1 hbr) 1).trans rfl; have e2 := (blk_cell (blk_grown EB hG.1 hbr) 2).trans rfl; have e3 := (blk_cell (blk_grown EB hG.1 hbr) 3).trans rfl; have e4 := (blk_cell (blk_grown EB hG.1 hbr) 4).trans rfl
          refine ⟨fun hf _ => ?_, ?_⟩
          · clear hf
            refine .inl ⟨by rfl, ?_⟩
            simp only [Reg.ung]
            go_wp2
            exact ⟨_, rfl, hG, (fun _ h => h) _, rfl⟩
          refine ⟨fun hf _ => ?_, ?_⟩
          · obtain ⟨hq0, -⟩ := hf
            obtain rfl : x0 = _ := hq0
            refine .inl ⟨by rfl, ?_⟩
            simp only [Reg.ung]
            go_wp2
            exact ⟨_, rfl, hG, (fun _ h => h) _, rfl⟩
          refine ⟨fun hf _ => ?_, ?_⟩
          · obtain ⟨hq0, -⟩ := hf
            obtain rfl : x1 = _ := hq0
            refine .inl ⟨by rfl, ?_⟩
            simp only [Reg.ung]
            go_wp2
            exact ⟨_, rfl, hG, (fun _ h => h) _, rfl⟩
          refine ⟨fun hf _ => ?_, ?_⟩
          · obtain ⟨hq0, -⟩ := hf
            obtain rfl : x2 = _ := hq0
            refine .inl ⟨by rfl, ?_⟩
            simp only [Reg.ung]
            go_wp2
            exact ⟨_, rfl, hG, (fun _ h => h) _, rfl⟩
          refine ⟨fun hf _ => ?_, ?_⟩
          · clear hf
            refine .inl ⟨by rfl, ?_⟩
            simp only [Reg.ung]
            go_wp2
            exact ⟨_, rfl, hG, (fun _ h => h) _, rfl⟩
          refine ⟨fun hf _ => ?_, ?_⟩
          · clear hf
            refine .inl ⟨by rfl, ?_⟩
            simp only [Reg.ung]
            go_wp2
            exact ⟨_, rfl, hG, (fun _ h => h) _, rfl⟩
          refine ⟨fun hf _ => ?_, ?_⟩
          · clear hf
            refine .inl ⟨by rfl, ?_⟩
            simp only [Reg.ung]
            go_wp2
            exact ⟨_, rfl, hG, (fun _ h => h) _, rfl⟩
          refine ⟨fun hf _ => ?_, ?_⟩
          · obtain ⟨hq0, -⟩ := hf
            obtain rfl : x6 = _ := hq0
            refine .inl ⟨by rfl, ?_⟩
            simp only [Reg.ung]
            go_wp2
            exact ⟨_, rfl, hG, (fun _ h => h) _, rfl⟩
          refine ⟨fun hf _ => ?_, ?_⟩
          · obtain ⟨hq0, -⟩ := hf
            obtain rfl : x7 = _ := hq0
            refine .inl ⟨by rfl, ?_⟩
            simp only [Reg.ung]
            go_wp2
            exact ⟨_, rfl, hG, (fun _ h => h) _, rfl⟩
          refine ⟨fun hf _ => ?_, ?_⟩
          · obtain ⟨hq0, -⟩ := hf
            obtain rfl : x8 = _ := hq0
            refine .inl ⟨by rfl, ?_⟩
            simp only [Reg.ung]
            go_wp2
            exact ⟨_, rfl, hG, (fun _ h => h) _, rfl⟩
          refine ⟨fun hf _ => ?_, ?_⟩
          · obtain ⟨hq0, hq1, -⟩ := hf
            obtain rfl : x5 = _ := hq0
            obtain rfl : x9 = _ := hq1
            refine .inl ⟨by rfl, ?_⟩
            simp only [Reg.ung]
            go_wp2
            exact ⟨_, rfl, hG, (fun _ h => h) _, rfl⟩
          refine ⟨fun hf _ => ?_, ?_⟩
          · obtain ⟨hq0, hq1, -, -, -, -, -, -, -, -, -, -, -, -⟩ := hf
            obtain rfl : x3 = _ := hq0
            obtain rfl : x4 = _ := hq1
            refine .inl ⟨by rfl, ?_⟩
            simp only [Reg.ung]
            go_wp2
            exact ⟨_, rfl, hG, (fun _ h => h) _, rfl⟩
          refine ⟨fun hf _ => ?_, ?_⟩
          · obtain ⟨hq0, hq1, -, -, -, -, -, -, -, -, -, -, -, -⟩ := hf
            obtain rfl : x11 = _ := hq0
            obtain rfl : x10 = _ := hq1
            refine .inl ⟨by rfl, ?_⟩
            simp only [Reg.ung]
            obtain ⟨hg1, lc, hlc, hrow⟩ := hG; have hst : lc.set n ⟨e, 0, came⟩ = (l ++ [z47]).set n ⟨e, 0, came⟩ := (by rcases hlc with h | h <;> (rw [h]; try simp)); refine put_store (rb := rb) (n := m) (c := cap) (i := n) ⟨e, 0, came⟩ (.tmp 64) (.tmp 63) rfl rfl rfl rfl rfl hrow (by omega) (HBW2.out.grown hg1 HBW2.out.size (fun j hj => by cases hj; exact hrbB)) ?_; intro w1 h1 h2; rw [hst] at h1; have H1 := Aside0.mk h1; have H2 := Aside0.mk (hg1.trans h2); clear h1 h2 hrow hg1 hst hlc q0 q1 e0 e1 e2 e3 e4; go_wp2; exact ⟨undef, rfl, ⟨H2.out, _, .inr rfl, H1.out⟩, fun _ => H1.out, H1.out⟩
          exact trivial
        case he =>
          intro xs hl0_ wr hG hf
          obtain ⟨x0, xs1, rfl, hl1⟩ := Reg.len_succ hl0_
          obtain ⟨x1, xs2, rfl, hl2⟩ := Reg.len_succ hl1
          obtain ⟨x2, xs3, rfl, hl3⟩ := Reg.len_succ hl2
          obtain ⟨x3, xs4, rfl, hl4⟩ := Reg.len_succ hl3
          obtain ⟨x4, xs5, rfl, hl5⟩ := Reg.len_succ hl4
          obtain ⟨x5, xs6, rfl, hl6⟩ := Reg.len_succ hl5
          obtain ⟨x6, xs7, rfl, hl7⟩ := Reg.len_succ hl6
          obtain ⟨x7, xs8, rfl, hl8⟩ := Reg.len_succ hl7
          obtain ⟨x8, xs9, rfl, hl9⟩ := Reg.len_succ hl8
          obtain ⟨x9, xs10, rfl, hl10⟩ := Reg.len_succ hl9
          obtain ⟨x10, xs11, rfl, hl11⟩ := Reg.len_succ hl10
          obtain ⟨x11, xs12, rfl, hl12⟩ := Reg.len_succ hl11
          obtain ⟨x12, xs13, rfl, hl13⟩ := Reg.len_succ hl12
          obtain rfl := List.eq_nil_of_length_eq_zero hl13
          clear hl0_ hl1 hl2 hl3 hl4 hl5 hl6 hl7 hl8 hl9 hl10 hl11 hl12 hl13
          obtain ⟨hq0, hq1, hq2, hq3, hq4, hq5, hq6, hq7, hq8, hq9, hq10, hq11, hq12, -⟩ := hf
          obtain rfl : x0 = _ := hq0
          obtain rfl : x1 = _ := hq1
          obtain rfl : x2 = _ := hq2
          obtain rfl : x3 = _ := hq3
          obtain rfl : x4 = _ := hq4
          obtain rfl : x5 = _ := hq5
          obtain rfl : x6 = _ := hq6
          obtain rfl : x7 = _ := hq7
          obtain rfl : x8 = _ := hq8
          obtain rfl : x9 = _ := hq9
          obtain rfl : x10 = _ := hq10
          obtain rfl : x11 = _ := hq11
          replace hq12 : Kd.R k47 47 wr W0.heap.size (fun k => k ≠ g) (.slice (some ⟨rb, 0, none⟩) m cap) ((l ++ [z47]).set n ⟨e, 0, came⟩) := hq12
          simp only [Reg.putL, Act.put, List.setIfInBounds_toArray, List.set_cons_succ, List.set_cons_zero]
          have q0 := (blk_cell (blk_grown QB hG.1 hgr) 0).trans rfl
          have q1 := (blk_cell (blk_grown QB hG.1 hgr) 1).trans rfl
          have qf := blk_frozen (blk_grown QB hG.1 hgr) 1
          have HST := Aside0.mk hq12
          have HGR := Aside0.mk hG.1
          have HQC := Aside0.mk (blk_grown QB hG.1 hgr)
          have hw1 : wrap64 (came + 1) = came + 1 := by unfold wrap64; omega
          clear hq12 hG
          by_cases hm32 : m ≤ 32
          · skip
            have hn1 : decide ((m : Int) > 32) = false := decide_eq_false (by first | omega | (have := HMM.out; omega))
            have hn2 : decide (32 < (m : Int)) = false := decide_eq_false (by first | omega | (have := HMM.out; omega))
            have hn3 : decide (32 < m) = false := decide_eq_false (by first | omega | (have := HMM.out; omega))
            go_wp2_with (fail)
            go_ret
            unfold PushR
            rw [HPB.out]
            simp only [if_true]
            have hx : Ex w wr g _ (.slice (some ⟨rb, 0, none⟩) m cap) := HXW.out.trans ⟨HGR.out.os, HGR.out.tape, HGR.out.output, KeepBut.of_grown HGR.out g, fun b hb => .inl hb⟩
            have hlen : (pushL l e came).length = m := by rw [HPL.out]; simp only [List.length_set, List.length_append, List.length_singleton]; exact HMM.out.symm
            refine ⟨rfl, .slice (some ⟨rb, 0, none⟩) m cap, pushL l e came, lost, by unfold PushN; rw [HPB.out, if_pos rfl, if_pos (by omega)]; exact ⟨rfl, rfl⟩, ⟨hx.os, hx.tape, hx.output, ⟨by rw [size_set]; exact hx.keep.1, fun k hk hg2 hr2 => ?_⟩, hx.own⟩, ⟨blk_put HQC.out 1 (.int .i64 (came + 1)) rfl, HQ.out.low, ?_, fun hnil => ?_⟩⟩
            · rw [Below.heap_setCell wr ⟨g, 1, none⟩ _ k hg2]
              exact hx.keep.2 k hk hg2 hr2
            · rw [HPL.out]
              refine WR.of_R ?_
              exact Kd.R_far HST.out (p := ⟨g, 1, none⟩) (fun k hk => hk) (.int .i64 (came + 1))
            · rw [HPL.out] at hnil
              exact absurd (congrArg List.length hnil) (by simp only [List.length_set, List.length_append, List.length_cons, List.length_nil]; omega)
          · have hn1 : decide ((m : Int) > 32) = true := decide_eq_true (by omega)
            have hn2 : decide (32 < (m : Int)) = true := decide_eq_true (by omega)
            have hn3 : decide (32 < m) = true := decide_eq_true (by omega)
            obtain ⟨_, cap0, hcap0, hcap, _⟩ := Kd.R_reads HST.out
            obtain rfl : cap = cap0 := by injection hcap0
            have hml : ((l ++ [z47]).set n ⟨e, 0, came⟩).length = m := by simp only [List.length_set, List.length_append, List.length_singleton]; exact HMM.out.symm
            have hcap33 : 32 ≤ cap := by omega
            obtain ⟨w6, hw6⟩ : ∃ w6, w6 = wr.setCell ⟨g, 1, none⟩ (.int .i64 (came + 1)) := ⟨_, rfl⟩
            have HQ6 := Aside0.mk (show Qv W0.heap.size w6 g (.slice (some ⟨rb, 0, none⟩) m cap) ((l ++ [z47]).set n ⟨e, 0, came⟩) (came + 1) lost by
              rw [hw6]
              exact ⟨blk_put HQC.out 1 (.int .i64 (came + 1)) rfl, HQ.out.low, WR.of_R (Kd.R_far HST.out (p := ⟨g, 1, none⟩) (fun k hk => hk) (.int .i64 (came + 1))), fun hnil => absurd (congrArg List.length hnil) (by rw [hml]; simp; omega)⟩)
            have HX6 := Aside0.mk (show Ex w w6 g (.slice A n c) (.slice (some ⟨rb, 0, none⟩) m cap) by
              rw [hw6]
              exact (HXW.out.trans ⟨HGR.out.os, HGR.out.tape, HGR.out.output, KeepBut.of_grown HGR.out g, fun b hb => .inl hb⟩).set 1 _)
            have HML := Aside0.mk hml
            clear hcap hcap0 hml
            go_wp2_with (fail)
            rw [← hw6]
            clear hw6
            refine (sort_all _ _ w6 W0.heap.size (fun k => k ≠ g) HQ6.out.row HQ6.out.nil (by have h1 := HML.out; have h2 := HMM.out; omega)).mono ?_
            rintro en w7 ⟨rfl, s, hp, hso, hr7, hg7⟩
            obtain ⟨hQ7, hX7⟩ := HQ6.out.sorted hp hr7 hg7
            have HX7 := Aside0.mk (HX6.out.trans hX7)
            have HP7 := Aside0.mk hp
            have HS7 := Aside0.mk hso
            have HQC7 := Aside0.mk hQ7.cell
            have HR7 := Aside0.mk hQ7.row
            have q0' := (blk_cell hQ7.cell 0).trans rfl
            have qf0 := blk_frozen hQ7.cell 0
            have q2' := (blk_cell hQ7.cell 2).trans rfl
            have qf2 := blk_frozen hQ7.cell 2
            have hw2 : wrap64 (lost + 1) = lost + 1 := by unfold wrap64; omega
            clear hp hso hr7 hg7 hQ7 hX7 q0 q1 qf hn1 hn2 hn3
            go_wp2_with (fail)
            go_ret
            unfold PushR
            rw [HPB.out]
            simp only [if_true]
            have hsl : s.length = m := HP7.out.length_eq.trans HML.out
            have htl : (s.take 32).length = 32 := by rw [List.length_take]; omega
            obtain ⟨A7, c7, c7', he7, _, hR7, _⟩ := HR7.out
            obtain ⟨rfl, _, rfl⟩ : some (⟨rb, 0, none⟩ : Addr) = A7 ∧ m = s.length ∧ cap = c7 := by simpa using he7
            have hpl : (pushL l e came).length = m := by rw [HPL.out]; exact HML.out
            refine ⟨rfl, .slice (some ⟨rb, 0, none⟩) 32 32, s.take 32, lost + 1, by unfold PushN; rw [HPB.out, if_pos rfl, if_neg (by omega), HPL.out]; exact ⟨s, HP7.out, HS7.out, rfl, rfl⟩, ((HX7.out.set 0 _).set 2 _).congr rfl, ⟨?_, HQ.out.low, ?_, fun hnil => absurd (congrArg List.length hnil) (by rw [htl]; simp)⟩⟩
            · exact blk_put (blk_put HQC7.out 0 _ rfl) 2 _ rfl
            · refine ⟨some ⟨rb, 0, none⟩, 32, c7', by rw [htl], by rw [htl]; exact Nat.le_refl _, ?_, .inr htl.symm⟩
              exact Kd.R_far (Kd.R_far (R_take hR7 (by omega)) (p := ⟨g, 0, none⟩) (fun k hk => hk) _) (p := ⟨g, 2, none⟩) (fun k hk => hk) _
    · have HI := Aside0.mk hi
      rw [hi]
      clear hi
      obtain ⟨rb, c0, cap, hv, hrb, hrok, hrl, hcl, hc0', hrow, hcc0⟩ := HQB.out.row.form (by omega)
      obtain ⟨rfl, hnn, rfl⟩ : A = some ⟨rb, 0, none⟩ ∧ n = l.length ∧ c = c0 := by simpa using hv
      have HROW0 := Aside0.mk hrow
      have HCC0 := Aside0.mk hcc0
      have HC0' := Aside0.mk hc0'
      obtain ⟨x, hx⟩ : ∃ x, x = l[i].f0 := ⟨_, rfl⟩
      have HX := Aside0.mk hx
      have HK := Aside0.mk hk
      obtain ⟨cc, _, hM, hcc, _⟩ := Kd.R_elem hrow z47 (i : Int) (by omega) (by omega)
      have hce := k47_openM hM
      have hgd : l.getD (i : Int).toNat z47 = l[i] := by simp [hil]
      rw [hgd] at hce
      rw [show k47.sz = 7 from rfl, Int.toNat_natCast] at hcc
      subst hce
      rw [← hx] at hcc
      have X0 := hcc 0 _ rfl
      have X1 := hcc 1 _ rfl
      have X2 := hcc 2 _ rfl
      have X3 := hcc 3 _ rfl
      have X4 := hcc 4 _ rfl
      rw [Nat.add_zero] at X0
      have hbk := HBKB.out
      have E0 := (blk_cell hbk 0).trans rfl
      have E1 := (blk_cell hbk 1).trans rfl
      have E2 := (blk_cell hbk 2).trans rfl
      have E3 := (blk_cell hbk 3).trans rfl
      have E4 := (blk_cell hbk 4).trans rfl
      have Q0 := (blk_cell HQB.out.cell 0).trans rfl
      obtain ⟨ab, hab⟩ : ∃ ab, ab = aboveB e x := ⟨_, rfl⟩
      have HABE := Aside0.mk hab
      have hae := fun W => eabove_any e x W
      unfold encE at hae
      rw [← hab] at hae
      have HAB := Aside0.mk hae
      have HPB0 := Aside0.mk (show pushB l e = ab by unfold pushB; rw [HCK0.out, HI.out, show decide ((i : Int) = -1) = false from decide_eq_false (by omega), rd47_get l i hil, HABE.out, HX.out]; simp)

      have hin : i < n := by omega
      have hi0 : decide ((i : Int) < 0) = false := decide_eq_false (by omega)
      have HRL := Aside0.mk hrl
      clear hbef
      clear hrow hcc0 hc0' hv hcc hM hgd hx hab hae hbk hrl hnn hk
      go_wp2_with (fail)
      refine Reg.region_list hmix [some 20, some 21, some 22, some 23, some 24, some 25, some 26, some 27, some 28, some 29, some 30, some 31, some 32, some 33, some 34, some 19] [[], [0], [1], [2], [2], [4, 2], [5, 2], [6, 2], [2], [7, 8, 2], [9, 2], [10, 2], [3, 11, 2, 2], [12, 2], [2, 13], [14, 12]] (fun w => Below wb.heap.size wb w) (fun w w' => Below w.heap.size w w') [(fun v w => v = (.int .i64 (i : Int) : Value)), (fun v w => v = (.bool true : Value)), (fun v w => v = (.bool true : Value)), (fun v w => v = (.agg #[.string e.f0, .int .i64 e.f1, .int .u16 e.f2, .string e.f3, .int .i64 e.f4] : Value)), (fun v w => v = (.pointer (some ⟨g, 0, none⟩) : Value)), (fun v w => v = (.pointer (some ⟨g, 0, none⟩) : Value)), (fun v w => v = (.pointer (some ⟨g, 0, none⟩) : Value)), (fun v w => v = (.slice (some ⟨rb, 0, none⟩) n c : Value)), (fun v w => v = (.int .i64 (i : Int) : Value)), (fun v w => v = (.pointer (some ⟨rb, i * 7, none⟩) : Value)), (fun v w => v = (.pointer (some ⟨rb, i * 7, none⟩) : Value)), (fun v w => v = (.agg #[.string x.f0, .int .i64 x.f1, .int .u16 x.f2, .string x.f3, .int .i64 x.f4] : Value)), (fun v w => v = (.bool ab : Value)), (fun v w => v = (.bool (!ab) : Value)), (fun v w => v = (.bool (!ab) : Value)), (fun v w => v = (.bool (!ab) : Value))] rfl (by kernel_rfl) (by kernel_rfl) (fun w => Below.refl w.heap.size w) (fun _ _ hr => Reg.mono_cons (fun _ h => h) (Reg.mono_cons (fun _ h => h) (Reg.mono_cons (fun _ h => h) (Reg.mono_cons (fun _ h => h) (Reg.mono_cons (fun _ h => h) (Reg.mono_cons (fun _ h => h) (Reg.mono_cons (fun _ h => h) (Reg.mono_cons (fun _ h => h) (Reg.mono_cons (fun _ h => h) (Reg.mono_cons (fun _ h => h) (Reg.mono_cons (fun _ h => h) (Reg.mono_cons (fun _ h => h) (Reg.mono_cons (fun _ h => h) (Reg.mono_cons (fun _ h => h) (Reg.mono_cons (fun _ h => h) (Reg.mono_cons (fun _ h => h) (Reg.mono_nil))))))))))))))))) ((Below.refl _ _).drew) ?hs ?he
      case hs =>
        intro xs0 xs hx0 hl0_ wr hG
        clear hx0
        obtain ⟨x0, xs1, rfl, hl1⟩ := Reg.len_succ hl0_
        obtain ⟨x1, xs2, rfl, hl2⟩ := Reg.len_succ hl1
        obtain ⟨x2, xs3, rfl, hl3⟩ := Reg.len_succ hl2
        obtain ⟨x3, xs4, rfl, hl4⟩ := Reg.len_succ hl3
        obtain ⟨x4, xs5, rfl, hl5⟩ := Reg.len_succ hl4
        obtain ⟨x5, xs6, rfl, hl6⟩ := Reg.len_succ hl5
        obtain ⟨x6, xs7, rfl, hl7⟩ := Reg.len_succ hl6
        obtain ⟨x7, xs8, rfl, hl8⟩ := Reg.len_succ hl7
        obtain ⟨x8, xs9, rfl, hl9⟩ := Reg.len_succ hl8
        obtain ⟨x9, xs10, rfl, hl10⟩ := Reg.len_succ hl9
        obtain ⟨x10, xs11, rfl, hl11⟩ := Reg.len_succ hl10
        obtain ⟨x11, xs12, rfl, hl12⟩ := Reg.len_succ hl11
        obtain ⟨x12, xs13, rfl, hl13⟩ := Reg.len_succ hl12
        obtain ⟨x13, xs14, rfl, hl14⟩ := Reg.len_succ hl13
        obtain ⟨x14, xs15, rfl, hl15⟩ := Reg.len_succ hl14
        obtain ⟨x15, xs16, rfl, hl16⟩ := Reg.len_succ hl15
        obtain rfl := List.eq_nil_of_length_eq_zero hl16
        clear hl0_ hl1 hl2 hl3 hl4 hl5 hl6 hl7 hl8 hl9 hl10 hl11 hl12 hl13 hl14 hl15 hl16
        simp only [Reg.putL, Act.put, List.setIfInBounds_toArray, List.set_cons_succ, List.set_cons_zero]
        have q0 := (hG.cell (World.block_lt_of_cell? wb _ Q0)).trans Q0; have e0 := (hG.cell (World.block_lt_of_cell? wb _ E0)).trans E0; have e1 := (hG.cell (World.block_lt_of_cell? wb _ E1)).trans E1; have e2 := (hG.cell (World.block_lt_of_cell? wb _ E2)).trans E2; have e3 := (hG.cell (World.block_lt_of_cell? wb _ E3)).trans E3; have e4 := (hG.cell (World.block_lt_of_cell? wb _ E4)).trans E4; have x0_ := (hG.cell (World.block_lt_of_cell? wb _ X0)).trans X0; have x1_ := (hG.cell (World.block_lt_of_cell? wb _ X1)).trans X1; have x2_ := (hG.cell (World.block_lt_of_cell? wb _ X2)).trans X2; have x3_ := (hG.cell (World.block_lt_of_cell? wb _ X3)).trans X3; have x4_ := (hG.cell (World.block_lt_of_cell? wb _ X4)).trans X4
        refine ⟨fun hf _ => ?_, ?_⟩
        · clear hf
          refine .inl ⟨by rfl, ?_⟩
          simp only [Reg.ung]
          go_wp2
          exact ⟨_, rfl, hG, (fun w => Below.refl w.heap.size w) _, rfl⟩
        refine ⟨fun hf _ => ?_, ?_⟩
        · obtain ⟨hq0, -⟩ := hf
          obtain rfl : x0 = _ := hq0
          refine .inl ⟨by rfl, ?_⟩
          simp only [Reg.ung]
          go_wp2
          exact ⟨_, rfl, hG, (fun w => Below.refl w.heap.size w) _, rfl⟩
        refine ⟨fun hf _ => ?_, ?_⟩
        · obtain ⟨hq0, -⟩ := hf
          obtain rfl : x1 = _ := hq0
          refine .inl ⟨by rfl, ?_⟩
          simp only [Reg.ung]
          go_wp2
          exact ⟨_, rfl, hG, (fun w => Below.refl w.heap.size w) _, rfl⟩
        refine ⟨fun hf _ => ?_, ?_⟩
        · obtain ⟨hq0, -⟩ := hf
          obtain rfl : x2 = _ := hq0
          refine .inl ⟨by rfl, ?_⟩
          simp only [Reg.ung]
          go_wp2
          exact ⟨_, rfl, hG, (fun w => Below.refl w.heap.size w) _, rfl⟩
        refine ⟨fun hf _ => ?_, ?_⟩
        · obtain ⟨hq0, -⟩ := hf
          obtain rfl : x2 = _ := hq0
          refine .inl ⟨by rfl, ?_⟩
          simp only [Reg.ung]
          go_wp2
          exact ⟨_, rfl, hG, (fun w => Below.refl w.heap.size w) _, rfl⟩
        refine ⟨fun hf _ => ?_, ?_⟩
        · obtain ⟨hq0, hq1, -⟩ := hf
          obtain rfl : x4 = _ := hq0
          obtain rfl : x2 = _ := hq1
          refine .inl ⟨by rfl, ?_⟩
          simp only [Reg.ung]
          go_wp2
          exact ⟨_, rfl, hG, (fun w => Below.refl w.heap.size w) _, rfl⟩
        refine ⟨fun hf _ => ?_, ?_⟩
        · obtain ⟨hq0, hq1, -⟩ := hf
          obtain rfl : x5 = _ := hq0
          obtain rfl : x2 = _ := hq1
          refine .inl ⟨by rfl, ?_⟩
          simp only [Reg.ung]
          go_wp2
          exact ⟨_, rfl, hG, (fun w => Below.refl w.heap.size w) _, rfl⟩
        refine ⟨fun hf _ => ?_, ?_⟩
        · obtain ⟨hq0, hq1, -⟩ := hf
          obtain rfl : x6 = _ := hq0
          obtain rfl : x2 = _ := hq1
          refine .inl ⟨by rfl, ?_⟩
          simp only [Reg.ung]
          go_wp2
          exact ⟨_, rfl, hG, (fun w => Below.refl w.heap.size w) _, rfl⟩
        refine ⟨fun hf _ => ?_, ?_⟩
        · obtain ⟨hq0, -⟩ := hf
          obtain rfl : x2 = _ := hq0
          refine .inl ⟨by rfl, ?_⟩
          simp only [Reg.ung]
          go_wp2
          exact ⟨_, rfl, hG, (fun w => Below.refl w.heap.size w) _, rfl⟩
        refine ⟨fun hf _ => ?_, ?_⟩
        · obtain ⟨hq0, hq1, hq2, -⟩ := hf
          obtain rfl : x7 = _ := hq0
          obtain rfl : x8 = _ := hq1
          obtain rfl : x2 = _ := hq2
          refine .inl ⟨by rfl, ?_⟩
          simp only [Reg.ung]
          go_wp2
          exact ⟨_, rfl, hG, (fun w => Below.refl w.heap.size w) _, rfl⟩
        refine ⟨fun hf _ => ?_, ?_⟩
        · obtain ⟨hq0, hq1, -⟩ := hf
          obtain rfl : x9 = _ := hq0
          obtain rfl : x2 = _ := hq1
          refine .inl ⟨by rfl, ?_⟩
          simp only [Reg.ung]
          go_wp2
          exact ⟨_, rfl, hG, (fun w => Below.refl w.heap.size w) _, rfl⟩
        refine ⟨fun hf _ => ?_, ?_⟩
        · obtain ⟨hq0, hq1, -⟩ := hf
          obtain rfl : x10 = _ := hq0
          obtain rfl : x2 = _ := hq1
          refine .inl ⟨by rfl, ?_⟩
          simp only [Reg.ung]
          go_wp2
          exact ⟨_, rfl, hG, (fun w => Below.refl w.heap.size w) _, rfl⟩
        refine ⟨fun hf _ => ?_, ?_⟩
        · obtain ⟨hq0, hq1, hq2, -, -⟩ := hf
          obtain rfl : x3 = _ := hq0
          obtain rfl : x11 = _ := hq1
          obtain rfl : x2 = _ := hq2
          refine .inl ⟨by rfl, ?_⟩
          simp only [Reg.ung]
          go_wp2_with ((go_at_call 25; refine (HAB.out _).mono ?_; rintro en w' ⟨rfl, hb⟩)); exact ⟨_, rfl, below_then hG hG.size hb, hb, rfl⟩
        refine ⟨fun hf _ => ?_, ?_⟩
        · obtain ⟨hq0, hq1, -⟩ := hf
          obtain rfl : x12 = _ := hq0
          obtain rfl : x2 = _ := hq1
          refine .inl ⟨by rfl, ?_⟩
          simp only [Reg.ung]
          go_wp2
          exact ⟨_, rfl, hG, (fun w => Below.refl w.heap.size w) _, rfl⟩
        refine ⟨fun hf _ => ?_, ?_⟩
        · obtain ⟨hq0, hq1, -⟩ := hf
          obtain rfl : x2 = _ := hq0
          obtain rfl : x13 = _ := hq1
          refine .inl ⟨by rfl, ?_⟩
          simp only [Reg.ung]
          go_wp2
          exact ⟨_, rfl, hG, (fun w => Below.refl w.heap.size w) _, rfl⟩
        refine ⟨fun hf _ => ?_, ?_⟩
        · obtain ⟨hq0, -, -⟩ := hf
          obtain rfl : x14 = _ := hq0
          refine .inl ⟨by rfl, ?_⟩
          simp only [Reg.ung]
          go_wp2
          exact ⟨_, rfl, hG, (fun w => Below.refl w.heap.size w) _, rfl⟩
        exact trivial
      case he =>
        intro xs hl0_ wr hG hf
        obtain ⟨x0, xs1, rfl, hl1⟩ := Reg.len_succ hl0_
        obtain ⟨x1, xs2, rfl, hl2⟩ := Reg.len_succ hl1
        obtain ⟨x2, xs3, rfl, hl3⟩ := Reg.len_succ hl2
        obtain ⟨x3, xs4, rfl, hl4⟩ := Reg.len_succ hl3
        obtain ⟨x4, xs5, rfl, hl5⟩ := Reg.len_succ hl4
        obtain ⟨x5, xs6, rfl, hl6⟩ := Reg.len_succ hl5
        obtain ⟨x6, xs7, rfl, hl7⟩ := Reg.len_succ hl6
        obtain ⟨x7, xs8, rfl, hl8⟩ := Reg.len_succ hl7
        obtain ⟨x8, xs9, rfl, hl9⟩ := Reg.len_succ hl8
        obtain ⟨x9, xs10, rfl, hl10⟩ := Reg.len_succ hl9
        obtain ⟨x10, xs11, rfl, hl11⟩ := Reg.len_succ hl10
        obtain ⟨x11, xs12, rfl, hl12⟩ := Reg.len_succ hl11
        obtain ⟨x12, xs13, rfl, hl13⟩ := Reg.len_succ hl12
        obtain ⟨x13, xs14, rfl, hl14⟩ := Reg.len_succ hl13
        obtain ⟨x14, xs15, rfl, hl15⟩ := Reg.len_succ hl14
        obtain ⟨x15, xs16, rfl, hl16⟩ := Reg.len_succ hl15
        obtain rfl := List.eq_nil_of_length_eq_zero hl16
        clear hl0_ hl1 hl2 hl3 hl4 hl5 hl6 hl7 hl8 hl9 hl10 hl11 hl12 hl13 hl14 hl15 hl16
        obtain ⟨hq0, hq1, hq2, hq3, hq4, hq5, hq6, hq7, hq8, hq9, hq10, hq11, hq12, hq13, hq14, hq15, -⟩ := hf
        obtain rfl : x0 = _ := hq0
        obtain rfl : x1 = _ := hq1
        obtain rfl : x2 = _ := hq2
        obtain rfl : x3 = _ := hq3
        obtain rfl : x4 = _ := hq4
        obtain rfl : x5 = _ := hq5
        obtain rfl : x6 = _ := hq6
        obtain rfl : x7 = _ := hq7
        obtain rfl : x8 = _ := hq8
        obtain rfl : x9 = _ := hq9
        obtain rfl : x10 = _ := hq10
        obtain rfl : x11 = _ := hq11
        obtain rfl : x12 = _ := hq12
        obtain rfl : x13 = _ := hq13
        obtain rfl : x14 = _ := hq14
        obtain rfl : x15 = _ := hq15
        simp only [Reg.putL, Act.put, List.setIfInBounds_toArray, List.set_cons_succ, List.set_cons_zero]
        have hQr := HQB.out.below hG
        have HBR := Aside0.mk (below_then HBW.out HBW.out.size hG)
        have HXW := Aside0.mk (HXB.out.trans (Ex.of_below hG g _))
        have EB := (hG.block _ (blk_lt HBKB.out)).trans HBKB.out
        have HQR := Aside0.mk hQr
        have HGG := Aside0.mk hG
        clear hQr hG Q0 E0 E1 E2 E3 E4 X0 X1 X2 X3 X4
        cases ab with
        | false =>
          go_wp2_with (fail)
          go_ret
          unfold PushR
          rw [HPB0.out]
          exact ⟨rfl, _, l, lost, by unfold PushN; rw [HPB0.out]; exact ⟨rfl, rfl⟩, HXW.out, HQR.out⟩
        | true =>
          obtain ⟨wb2, hwb2⟩ : ∃ wb2, wb2 = wr := ⟨_, rfl⟩
          subst hwb2
          have QB := HQR.out.cell
          have HRX := Aside0.mk (Kd.R_below HROW0.out HGG.out)
          have HBW2 := HBR
          have hgr : some g ≠ some rb := fun e2 => hrok (by injection e2 with e2; exact e2.symm)
          have hbr : some bx ≠ some rb := fun e2 => by
            injection e2 with e2
            obtain ⟨cells, hc2⟩ := hcl
            have h3 := HBKB.out
            rw [e2, hc2] at h3
            injection h3 with h3
            injection h3 with _ h3 _
            exact absurd h3 (by decide)
          have hrbB : W0.heap.size ≤ rb := hrb
          have HPB := Aside0.mk (show pushB l e = true from HPB0.out)
          have HPL := Aside0.mk (show pushL l e came = l.set i ⟨e, 0, came⟩ by unfold pushL; rw [HI.out, if_neg (by omega), Int.toNat_natCast])
          have HMM := HN
          clear hrok hcl
          go_wp2_with (fail)
          refine Reg.region_list hmix [some 53, some 54, some 55, some 56, some 57, some 58, some 59, some 60, some 61, some 62, some 63, some 64, none] [[], [0], [1], [2], [], [], [], [6], [7], [8], [5, 9], [3, 4, 0, 1, 2, 3, 4, 5, 6, 7, 8, 9, 10], [11, 10, 0, 1, 2, 3, 4, 5, 6, 7, 8, 9, 10]] (fun w => wb2.grownBy w (some rb) ∧ ∃ lc, (lc = l ∨ lc = l.set i ⟨e, 0, came⟩) ∧ Kd.R k47 47 w W0.heap.size (fun k => k ≠ g) (.slice (some ⟨rb, 0, none⟩) n cap) lc) (fun w w' => Kd.R k47 47 w W0.heap.size (fun k => k ≠ g) (.slice (some ⟨rb, 0, none⟩) n cap) (l.set i ⟨e, 0, came⟩) → Kd.R k47 47 w' W0.heap.size (fun k => k ≠ g) (.slice (some ⟨rb, 0, none⟩) n cap) (l.set i ⟨e, 0, came⟩)) [(fun v w => v = (.pointer (some ⟨g, 0, none⟩) : Value)), (fun v w => v = (.pointer (some ⟨g, 0, none⟩) : Value)), (fun v w => v = (.pointer (some ⟨g, 0, none⟩) : Value)), (fun v w => v = (.slice (some ⟨rb, 0, none⟩) n c : Value)), (fun v w => v = (.int .i64 (i : Int) : Value)), (fun v w => v = (.agg #[.string e.f0, .int .i64 e.f1, .int .u16 e.f2, .string e.f3, .int .i64 e.f4] : Value)), (fun v w => v = (.pointer (some ⟨g, 0, none⟩) : Value)), (fun v w => v = (.pointer (some ⟨g, 0, none⟩) : Value)), (fun v w => v = (.pointer (some ⟨g, 1, none⟩) : Value)), (fun v w => v = (.int .i64 came : Value)), (fun v w => v = (.agg #[.string e.f0, .int .i64 e.f1, .int .u16 e.f2, .string e.f3, .int .i64 e.f4, .int .i64 0, .int .i64 came] : Value)), (fun v w => v = (.pointer (some ⟨rb, i * 7, none⟩) : Value)), (fun v w => Kd.R k47 47 w W0.heap.size (fun k => k ≠ g) (.slice (some ⟨rb, 0, none⟩) n cap) (l.set i ⟨e, 0, came⟩))] rfl (by kernel_rfl) (by kernel_rfl) (fun _ h => h) (fun _ _ hr => Reg.mono_cons (fun _ h => h) (Reg.mono_cons (fun _ h => h) (Reg.mono_cons (fun _ h => h) (Reg.mono_cons (fun _ h => h) (Reg.mono_cons (fun _ h => h) (Reg.mono_cons (fun _ h => h) (Reg.mono_cons (fun _ h => h) (Reg.mono_cons (fun _ h => h) (Reg.mono_cons (fun _ h => h) (Reg.mono_cons (fun _ h => h) (Reg.mono_cons (fun _ h => h) (Reg.mono_cons (fun _ h => h) (Reg.mono_cons (fun _ h => hr h) (Reg.mono_nil)))))))))))))) (⟨grownBy_drew (grownBy_refl wb2 _), l, .inl rfl, Kd.R_drew (by have := HRX.out; rw [← HMM.out] at this; exact this)⟩) ?hs ?he
          case hs =>
            intro xs0 xs hx0 hl0_ wr hG
            clear hx0
            obtain ⟨x0, xs1, rfl, hl1⟩ := Reg.len_succ hl0_
            obtain ⟨x1, xs2, rfl, hl2⟩ := Reg.len_succ hl1
            obtain ⟨x2, xs3, rfl, hl3⟩ := Reg.len_succ hl2
            obtain ⟨x3, xs4, rfl, hl4⟩ := Reg.len_succ hl3
            obtain ⟨x4, xs5, rfl, hl5⟩ := Reg.len_succ hl4
            obtain ⟨x5, xs6, rfl, hl6⟩ := Reg.len_succ hl5
            obtain ⟨x6, xs7, rfl, hl7⟩ := Reg.len_succ hl6
            obtain ⟨x7, xs8, rfl, hl8⟩ := Reg.len_succ hl7
            obtain ⟨x8, xs9, rfl, hl9⟩ := Reg.len_succ hl8
            obtain ⟨x9, xs10, rfl, hl10⟩ := Reg.len_succ hl9
            obtain ⟨x10, xs11, rfl, hl11⟩ := Reg.len_succ hl10
            obtain ⟨x11, xs12, rfl, hl12⟩ := Reg.len_succ hl11
            obtain ⟨x12, xs13, rfl, hl13⟩ := Reg.len_succ hl12
            obtain rfl := List.eq_nil_of_length_eq_zero hl13
            clear hl0_ hl1 hl2 hl3 hl4 hl5 hl6 hl7 hl8 hl9 hl10 hl11 hl12 hl13
            simp only [Reg.putL, Act.put, List.setIfInBounds_toArray, List.set_cons_succ, List.set_cons_zero]
            have q0 := (blk_cell (blk_grown QB hG.1 hgr) 0).trans rfl; have q1 := (blk_cell (blk_grown QB hG.1 hgr) 1).trans rfl; have e0 := (blk_cell (blk_grown EB hG.1 hbr) 0).trans rfl; have e1 := (blk_cell (blk_grown EB hG.1 hbr) 1).trans rfl; have e2 := (blk_cell (blk_grown EB hG.1 hbr) 2).trans rfl; have e3 := (blk_cell (blk_grown EB hG.1 hbr) 3).trans rfl; have e4 := (blk_cell (blk_grown EB hG.1 hbr) 4).trans rfl
            refine ⟨fun hf _ => ?_, ?_⟩
            · clear hf
              refine .inl ⟨by rfl, ?_⟩
              simp only [Reg.ung]
              go_wp2
              exact ⟨_, rfl, hG, (fun _ h => h) _, rfl⟩
            refine ⟨fun hf _ => ?_, ?_⟩
            · obtain ⟨hq0, -⟩ := hf
              obtain rfl : x0 = _ := hq0
              refine .inl ⟨by rfl, ?_⟩
              simp only [Reg.ung]
              go_wp2
              exact ⟨_, rfl, hG, (fun _ h => h) _, rfl⟩
            refine ⟨fun hf _ => ?_, ?_⟩
            · obtain ⟨hq0, -⟩ := hf
              obtain rfl : x1 = _ := hq0
              refine .inl ⟨by rfl, ?_⟩
              simp only [Reg.ung]
              go_wp2
              exact ⟨_, rfl, hG, (fun _ h => h) _, rfl⟩
            refine ⟨fun hf _ => ?_, ?_⟩
            · obtain ⟨hq0, -⟩ := hf
              obtain rfl : x2 = _ := hq0
              refine .inl ⟨by rfl, ?_⟩
              simp only [Reg.ung]
              go_wp2
              exact ⟨_, rfl, hG, (fun _ h => h) _, rfl⟩
            refine ⟨fun hf _ => ?_, ?_⟩
            · clear hf
              refine .inl ⟨by rfl, ?_⟩
              simp only [Reg.ung]
              go_wp2
              exact ⟨_, rfl, hG, (fun _ h => h) _, rfl⟩
            refine ⟨fun hf _ => ?_, ?_⟩
            · clear hf
              refine .inl ⟨by rfl, ?_⟩
              simp only [Reg.ung]
              go_wp2
              exact ⟨_, rfl, hG, (fun _ h => h) _, rfl⟩
            refine ⟨fun hf _ => ?_, ?_⟩
            · clear hf
              refine .inl ⟨by rfl, ?_⟩
              simp only [Reg.ung]
              go_wp2
              exact ⟨_, rfl, hG, (fun _ h => h) _, rfl⟩
            refine ⟨fun hf _ => ?_, ?_⟩
            · obtain ⟨hq0, -⟩ := hf
              obtain rfl : x6 = _ := hq0
              refine .inl ⟨by rfl, ?_⟩
              simp only [Reg.ung]
              go_wp2
              exact ⟨_, rfl, hG, (fun _ h => h) _, rfl⟩
            refine ⟨fun hf _ => ?_, ?_⟩
            · obtain ⟨hq0, -⟩ := hf
              obtain rfl : x7 = _ := hq0
              refine .inl ⟨by rfl, ?_⟩
              simp only [Reg.ung]
              go_wp2
              exact ⟨_, rfl, hG, (fun _ h => h) _, rfl⟩
            refine ⟨fun hf _ => ?_, ?_⟩
            · obtain ⟨hq0, -⟩ := hf
              obtain rfl : x8 = _ := hq0
              refine .inl ⟨by rfl, ?_⟩
              simp only [Reg.ung]
              go_wp2
              exact ⟨_, rfl, hG, (fun _ h => h) _, rfl⟩
            refine ⟨fun hf _ => ?_, ?_⟩
            · obtain ⟨hq0, hq1, -⟩ := hf
              obtain rfl : x5 = _ := hq0
              obtain rfl : x9 = _ := hq1
              refine .inl ⟨by rfl, ?_⟩
              simp only [Reg.ung]
              go_wp2
              exact ⟨_, rfl, hG, (fun _ h => h) _, rfl⟩
            refine ⟨fun hf _ => ?_, ?_⟩
            · obtain ⟨hq0, hq1, -, -, -, -, -, -, -, -, -, -, -, -⟩ := hf
              obtain rfl : x3 = _ := hq0
              obtain rfl : x4 = _ := hq1
              refine .inl ⟨by rfl, ?_⟩
              simp only [Reg.ung]
              go_wp2
              exact ⟨_, rfl, hG, (fun _ h => h) _, rfl⟩
            refine ⟨fun hf _ => ?_, ?_⟩
            · obtain ⟨hq0, hq1, -, -, -, -, -, -, -, -, -, -, -, -⟩ := hf
              obtain rfl : x11 = _ := hq0
              obtain rfl : x10 = _ := hq1
              refine .inl ⟨by rfl, ?_⟩
              simp only [Reg.ung]
              obtain ⟨hg1, lc, hlc, hrow⟩ := hG; have hst : lc.set i ⟨e, 0, came⟩ = l.set i ⟨e, 0, came⟩ := (by rcases hlc with h | h <;> (rw [h]; try simp)); refine put_store (rb := rb) (n := n) (c := cap) (i := i) ⟨e, 0, came⟩ (.tmp 64) (.tmp 63) rfl rfl rfl rfl rfl hrow (by omega) (HBW2.out.grown hg1 HBW2.out.size (fun j hj => by cases hj; exact hrbB)) ?_; intro w1 h1 h2; rw [hst] at h1; have H1 := Aside0.mk h1; have H2 := Aside0.mk (hg1.trans h2); clear h1 h2 hrow hg1 hst hlc q0 q1 e0 e1 e2 e3 e4; go_wp2; exact ⟨undef, rfl, ⟨H2.out, _, .inr rfl, H1.out⟩, fun _ => H1.out, H1.out⟩
            exact trivial
          case he =>
            intro xs hl0_ wr hG hf
            obtain ⟨x0, xs1, rfl, hl1⟩ := Reg.len_succ hl0_
            obtain ⟨x1, xs2, rfl, hl2⟩ := Reg.len_succ hl1
            obtain ⟨x2, xs3, rfl, hl3⟩ := Reg.len_succ hl2
            obtain ⟨x3, xs4, rfl, hl4⟩ := Reg.len_succ hl3
            obtain ⟨x4, xs5, rfl, hl5⟩ := Reg.len_succ hl4
            obtain ⟨x5, xs6, rfl, hl6⟩ := Reg.len_succ hl5
            obtain ⟨x6, xs7, rfl, hl7⟩ := Reg.len_succ hl6
            obtain ⟨x7, xs8, rfl, hl8⟩ := Reg.len_succ hl7
            obtain ⟨x8, xs9, rfl, hl9⟩ := Reg.len_succ hl8
            obtain ⟨x9, xs10, rfl, hl10⟩ := Reg.len_succ hl9
            obtain ⟨x10, xs11, rfl, hl11⟩ := Reg.len_succ hl10
            obtain ⟨x11, xs12, rfl, hl12⟩ := Reg.len_succ hl11
            obtain ⟨x12, xs13, rfl, hl13⟩ := Reg.len_succ hl12
            obtain rfl := List.eq_nil_of_length_eq_zero hl13
            clear hl0_ hl1 hl2 hl3 hl4 hl5 hl6 hl7 hl8 hl9 hl10 hl11 hl12 hl13
            obtain ⟨hq0, hq1, hq2, hq3, hq4, hq5, hq6, hq7, hq8, hq9, hq10, hq11, hq12, -⟩ := hf
            obtain rfl : x0 = _ := hq0
            obtain rfl : x1 = _ := hq1
            obtain rfl : x2 = _ := hq2
            obtain rfl : x3 = _ := hq3
            obtain rfl : x4 = _ := hq4
            obtain rfl : x5 = _ := hq5
            obtain rfl : x6 = _ := hq6
            obtain rfl : x7 = _ := hq7
            obtain rfl : x8 = _ := hq8
            obtain rfl : x9 = _ := hq9
            obtain rfl : x10 = _ := hq10
            obtain rfl : x11 = _ := hq11
            replace hq12 : Kd.R k47 47 wr W0.heap.size (fun k => k ≠ g) (.slice (some ⟨rb, 0, none⟩) n cap) (l.set i ⟨e, 0, came⟩) := hq12
            simp only [Reg.putL, Act.put, List.setIfInBounds_toArray, List.set_cons_succ, List.set_cons_zero]
            have q0 := (blk_cell (blk_grown QB hG.1 hgr) 0).trans rfl
            have q1 := (blk_cell (blk_grown QB hG.1 hgr) 1).trans rfl
            have qf := blk_frozen (blk_grown QB hG.1 hgr) 1
            have HST := Aside0.mk hq12
            have HGR := Aside0.mk hG.1
            have HQC := Aside0.mk (blk_grown QB hG.1 hgr)
            have hw1 : wrap64 (came + 1) = came + 1 := by unfold wrap64; omega
            have hn1 : decide ((n : Int) > 32) = false := decide_eq_false (by first | omega | (have := HMM.out; omega))
            have hn2 : decide (32 < (n : Int)) = false := decide_eq_false (by first | omega | (have := HMM.out; omega))
            have hn3 : decide (32 < n) = false := decide_eq_false (by first | omega | (have := HMM.out; omega))
            clear hq12 hG
            go_wp2_with (fail)
            go_ret
            unfold PushR
            rw [HPB.out]
            simp only [if_true]
            have hx : Ex w wr g _ (.slice (some ⟨rb, 0, none⟩) n c) := HXW.out.trans ⟨HGR.out.os, HGR.out.tape, HGR.out.output, KeepBut.of_grown HGR.out g, fun b hb => .inl hb⟩
            have hlen : (pushL l e came).length = n := by rw [HPL.out, List.length_set]; exact HMM.out.symm
            refine ⟨rfl, .slice (some ⟨rb, 0, none⟩) n c, pushL l e came, lost, by unfold PushN; rw [HPB.out, if_pos rfl, if_pos (by have := HMM.out; omega)]; exact ⟨rfl, rfl⟩, ⟨hx.os, hx.tape, hx.output, ⟨by rw [size_set]; exact hx.keep.1, fun k hk hg2 hr2 => ?_⟩, hx.own⟩, ⟨blk_put HQC.out 1 (.int .i64 (came + 1)) rfl, HQ.out.low, ?_, fun hnil => ?_⟩⟩
            · rw [Below.heap_setCell wr ⟨g, 1, none⟩ _ k hg2]
              exact hx.keep.2 k hk hg2 hr2
            · refine ⟨some ⟨rb, 0, none⟩, c, cap, by rw [hlen], by rw [hlen, HMM.out]; exact HC0'.out, ?_, by rw [hlen, HMM.out]; exact HCC0.out⟩
              rw [hlen, HPL.out]
              exact Kd.R_far HST.out (p := ⟨g, 1, none⟩) (fun k hk => hk) (.int .i64 (came + 1))
            · rw [HPL.out] at hnil
              exact absurd (congrArg List.length hnil) (by simp only [List.length_set, List.length_append, List.length_cons, List.length_nil]; omega)
  · have hk1 : (ck != 0) = true := bne_iff_ne.2 hck0
    have HP := Aside0.mk (show pushB l e = false by unfold pushB; rw [← HCK.out, decide_eq_false hck0]; rfl)
    go_enter Tryd.func9, Tryd.ntmps9
    go_wp2_with (fail)
    rw [← hw2]
    refine HEC.out.mono ?_
    rintro en w3 ⟨rfl, hb3⟩
    have HB3 := Aside0.mk (below_then HB2.out HB2.out.size hb3)
    clear hb3
    go_wp2_with (fail)
    go_ret
    unfold PushR
    rw [HP.out]
    exact ⟨rfl, v, l, lost, by unfold PushN; rw [HP.out]; exact ⟨rfl, rfl⟩, Ex.of_below HB3.out g v, HQ.out.below HB3.out⟩
theorem pushL_len (l : List S47) (e : S27) (came : Int) : (pushL l e came).length ≤ l.length + 1 := by
  unfold pushL
  split
  · simp
  · simp
/-- A push where there is room. -/
def PushS (W0 w : World) (g : Nat) (v : Value) (l : List S47) (e : S27) (came lost : Int) (en : Ending) (w' : World) : Prop :=
  en = .returned (.bool (pushB l e)) ∧ ∃ v', Ex w w' g v v' ∧ Qv W0.heap.size w' g v' (if pushB l e then pushL l e came else l) (if pushB l e then came + 1 else came) lost
theorem push_any (g : Nat) (v : Value) (l : List S47) (came lost : Int) (e : S27) (W0 w : World) (h : Qv W0.heap.size w g v l came lost) (hB0 : Below W0.heap.size W0 w) (h8 : l.length ≤ 31) (hc0 : 0 ≤ came) (hc1 : came ≤ 1000000000) (hlo0 : 0 ≤ lost) (hlo1 : lost ≤ 1000000000) :
    Calls Tryd.prog 9 #[.pointer (some ⟨g, 0, none⟩), encE e] w (PushS W0 w g v l e came lost) := by
  refine (push_all g v l came lost e W0 w h hB0 (by omega) hc0 hc1 hlo0 hlo1).mono ?_
  rintro en w' ⟨rfl, v', l', lost', hn, hx, hq⟩
  refine ⟨rfl, v', hx, ?_⟩
  unfold PushN at hn
  have := pushL_len l e came
  cases hb : pushB l e with
  | false =>
    rw [hb] at hn hq
    obtain ⟨rfl, rfl⟩ := hn
    exact hq
  | true =>
    rw [hb, if_pos rfl, if_pos (by omega)] at hn
    rw [hb] at hq
    obtain ⟨rfl, rfl⟩ := hn
    exact hq
end Go.Proofs.YtmifpookhhkgeaaDoor.Q
