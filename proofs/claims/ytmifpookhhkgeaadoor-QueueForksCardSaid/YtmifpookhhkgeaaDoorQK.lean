/- A call on both queues, where the document's row may be shared. -/
import Derived.Test.YtmifpookhhkgeaaDoorQX
import Derived.Test.YtmifpookhhkgeaaDoorPV
set_option linter.unusedVariables false
set_option linter.unusedSimpArgs false
namespace Go.Proofs.YtmifpookhhkgeaaDoor.Q
open Go.RowKit Go.Lib Go.Proofs.YtmifpookhhkgeaaDoorW.PrintWords Go.Proofs.YtmifpookhhkgeaaDoorW.PrintMore Go.Proofs.YtmifpookhhkgeaaDoorW.PrintLast Go.Proofs.YtmifpookhhkgeaaDoor.P Go.Proofs.YtmifpookhhkgeaaDoor.G
/-- A row of items that is only read, apart from what may change (S). -/
def UV (w : World) (u : Value) (xs : List S69) (S : Nat → Prop) : Prop := Kd.V k69 69 w 0 (fun k => k < w.heap.size ∧ ¬ S k) u xs
theorem UV.reads {w : World} {u : Value} {xs : List S69} {S : Nat → Prop} (h : UV w u xs S) : ∃ A c, u = .slice A xs.length c ∧ xs.length ≤ c ∧ Kd.C k69 w A xs.length xs := by
  obtain ⟨A, c, h1, h2, h3⟩ := h
  exact ⟨A, c, h1, h2, Kd.F_now h3⟩
theorem V_reads {w : World} {B : Nat} {ok : Nat → Prop} {u : Value} {xs : List S69} (h : Kd.V k69 69 w B ok u xs) : ∃ A c, u = .slice A xs.length c ∧ xs.length ≤ c ∧ Kd.C k69 w A xs.length xs := by
  obtain ⟨A, c, h1, h2, h3⟩ := h
  exact ⟨A, c, h1, h2, Kd.F_now h3⟩
theorem UV.kept {w w' : World} {u : Value} {xs : List S69} {S S' T : Nat → Prop} (h : UV w u xs S) (hk : Kept w w' T) (hT : ∀ k, T k → S k ∨ w.heap.size ≤ k) (hS : ∀ k, S' k → S k ∨ w.heap.size ≤ k) : UV w' u xs S' :=
  Kd.V_mono (Kd.V_step h (fun k hk2 hlt => hk.2 k hlt (fun ht => (hT k ht).elim hk2.2 (fun h3 => by omega)))) (fun k hk2 => ⟨Nat.lt_of_lt_of_le hk2.1 hk.1, fun hs => (hS k hs).elim hk2.2 (fun h3 => by have := hk2.1; omega)⟩)
theorem UV.below {w w' : World} {u : Value} {xs : List S69} {S : Nat → Prop} (h : UV w u xs S) (hb : Below w.heap.size w w') : UV w' u xs S :=
  h.kept (T := fun _ => False) (Kept.of_below hb _) (fun _ h => h.elim) (fun _ h => .inl h)
theorem UV.mono {w : World} {u : Value} {xs : List S69} {S S' : Nat → Prop} (h : UV w u xs S) (hS : ∀ k, S' k → S k ∨ w.heap.size ≤ k) : UV w u xs S' := h.kept (T := fun _ => False) (Kept.of_below (Below.refl _ _) _) (fun _ h => h.elim) hS
theorem UV.of_R {w : World} {B : Nat} {ok : Nat → Prop} {u : Value} {xs : List S69} {S : Nat → Prop} (h : Kd.R k69 69 w B ok u xs) (hS : ∀ k, S k → k < B) : UV w u xs S :=
  Kd.V_mono (base := 0) (Kd.R_V (Kd.R_bound h)) (fun k hk => ⟨hk.2.2.1, fun hs => by have := hS k hs; have := hk.2.1; omega⟩)
theorem Ex.kept2 {w w' : World} {g : Nat} {v v' : Value} (h : Ex w w' g v v') : Kept w w' (fun k => k = g ∨ v.ownBlock = some k) := ⟨h.size, fun i hi hn => h.keep.2 i hi (fun e => hn (.inl e)) (fun e => hn (.inr e.symm))⟩
def DoR2 (W0 w : World) (g : Nat) (v : Value) (S : Nat → Prop) (N : Nat) (en : Ending) (w' : World) : Prop :=
  ∃ v' u' l' L' came' lost', en = .returned (.tuple #[.agg #[u', .int .i64 came', .int .i64 lost'], .bool true]) ∧ Qv W0.heap.size w' g v' l' came' lost' ∧ UV w' u' (List.map cv L') (fun k => S k ∨ v'.ownBlock = some k) ∧ Inv l' L' came' lost' (N + 1) ∧ Below W0.heap.size W0 w' ∧ Kept w w' (fun k => k = g ∨ v.ownBlock = some k) ∧ (∀ b, v'.ownBlock = some b → v.ownBlock = some b ∨ w.heap.size ≤ b)
set_option maxHeartbeats 4000000 in
set_option maxRecDepth 100000 in
theorem do_two (g : Nat) (v : Value) (l L : List S47) (came lost : Int) (N : Nat) (u : Value) (a : S42) (S : Nat → Prop) (W0 w : World) (hT : TabS W0) (hB : Below W0.heap.size W0 w) (hQ : Qv W0.heap.size w g v l came lost) (hS : ∀ k, S k → k < w.heap.size) (hSg : S g) (hSv : ∀ b, v.ownBlock = some b → S b) (hU : UV w u (List.map cv L) S) (hI : Inv l L came lost N) (hN : N ≤ 1000) (hr : a.f2 ≤ 9223372036854775807) :
    Calls Tryd.prog 15 #[.pointer (some ⟨g, 0, none⟩), .agg #[u, .int .i64 came, .int .i64 lost], .agg (enc42 a).toArray] w (DoR2 W0 w g v S N) := by
  obtain ⟨A0, c0, hu, hc0, hC0⟩ := hU.reads
  have HSL := Aside0.mk hS
  have HSV := Aside0.mk hSv
  have HSG := Aside0.mk hSg
  clear hS hSv hSg
  obtain ⟨n0, hn0⟩ : ∃ n0, n0 = (List.map cv L).length := ⟨_, rfl⟩
  rw [← hn0] at hu
  subst hu
  have HQ := Aside0.mk hQ
  have HU := Aside0.mk hU
  have HB := Aside0.mk hB
  have HI := Aside0.mk hI
  have HT := Aside0.mk hT
  have HN0 := Aside0.mk hn0
  unfold enc42
  clear hQ hU hB hI hT hn0 hc0 hC0
  cases hf : a.f0 with
  | true =>
    have HF := Aside0.mk hf
    go_enter Tryd.func15, Tryd.ntmps15
    go_wp2_with (fail)
    obtain ⟨p, hp⟩ : ∃ p, p = w.heap.size := ⟨_, rfl⟩
    obtain ⟨wa, hwa⟩ : ∃ wa, wa = ((w.alloc (.cells #[.slice A0 n0 c0, .int .i64 came, .int .i64 lost] 38)).alloc (.cells #[.bool true, .string a.f1.f0, .int .i64 a.f1.f1, .int .u16 a.f1.f2, .string a.f1.f3, .int .i64 a.f1.f4, .int .i64 a.f2, .int .i64 a.f3] 42)).alloc (.cells #[.slice none 0 0, .int .i64 0, .int .i64 0] 38) := ⟨_, rfl⟩
    rw [← hwa, ← hp]
    have hb3 : Below w.heap.size w wa := by rw [hwa]; exact below_alloc (below_alloc (below_alloc (Below.refl _ w) _) _) _
    have bk4 : wa.heap[p]? = some (.cells #[.slice A0 n0 c0, .int .i64 came, .int .i64 lost] 38 (0, 0)) := by rw [hwa, hp]; exact (heap_alloc_old _ _ (by simp; omega)).trans ((heap_alloc_old _ _ (by simp)).trans (heap_alloc_new w _))
    have bk5 : wa.heap[p + 1]? = some (.cells #[.bool true, .string a.f1.f0, .int .i64 a.f1.f1, .int .u16 a.f1.f2, .string a.f1.f3, .int .i64 a.f1.f4, .int .i64 a.f2, .int .i64 a.f3] 42 (0, 0)) := by
      rw [hwa, hp]
      have h := heap_alloc_new (w.alloc (.cells #[.slice A0 n0 c0, .int .i64 came, .int .i64 lost] 38)) (.cells #[.bool true, .string a.f1.f0, .int .i64 a.f1.f1, .int .u16 a.f1.f2, .string a.f1.f3, .int .i64 a.f1.f4, .int .i64 a.f2, .int .i64 a.f3] 42)
      rw [show (w.alloc (.cells #[.slice A0 n0 c0, .int .i64 came, .int .i64 lost] 38)).heap.size = w.heap.size + 1 by simp] at h
      exact (heap_alloc_old _ _ (by simp)).trans h
    have bk6 : wa.heap[p + 1 + 1]? = some (.cells #[.slice none 0 0, .int .i64 0, .int .i64 0] 38 (0, 0)) := by
      rw [hwa, hp]
      have h := heap_alloc_new ((w.alloc (.cells #[.slice A0 n0 c0, .int .i64 came, .int .i64 lost] 38)).alloc (.cells #[.bool true, .string a.f1.f0, .int .i64 a.f1.f1, .int .u16 a.f1.f2, .string a.f1.f3, .int .i64 a.f1.f4, .int .i64 a.f2, .int .i64 a.f3] 42)) (.cells #[.slice none 0 0, .int .i64 0, .int .i64 0] 38)
      rw [show ((w.alloc (.cells #[.slice A0 n0 c0, .int .i64 came, .int .i64 lost] 38)).alloc (.cells #[.bool true, .string a.f1.f0, .int .i64 a.f1.f1, .int .u16 a.f1.f2, .string a.f1.f3, .int .i64 a.f1.f4, .int .i64 a.f2, .int .i64 a.f3] 42)).heap.size = w.heap.size + 1 + 1 by simp] at h
      exact h
    have HBA := Aside0.mk hb3
    have HQA := Aside0.mk (HQ.out.below hb3)
    have HUA := Aside0.mk (show Kd.V k69 69 wa 0 (fun k => k < w.heap.size ∧ ¬ S k) (.slice A0 n0 c0) (List.map cv L) from Kd.V_below HU.out hb3)
    have HBWA := Aside0.mk (below_then HB.out HB.out.size hb3)
    have HBK4 := Aside0.mk bk4
    have HBK5 := Aside0.mk bk5
    have HBK6 := Aside0.mk bk6
    have HP := Aside0.mk hp
    clear hb3 bk4 bk5 bk6 hwa hp hf
    have hvals : ∀ x ∈ l, checkC x.f0 = 0 ∧ 0 ≤ x.f1 ∧ x.f1 ≤ 1000000000 := fun x hx => by
      obtain ⟨h1, h2, h3, _⟩ := HI.out.vals x (HI.out.perm.mem_iff.1 hx)
      exact ⟨h1, h2, by omega⟩
    have hvalL : ∀ x ∈ L, checkC x.f0 = 0 ∧ 0 ≤ x.f1 ∧ x.f1 ≤ 1000000000 := fun x hx => hvals x (HI.out.perm.mem_iff.2 hx)
    have HVL := Aside0.mk hvalL
    have hll : l.length ≤ 32 := by rw [HI.out.perm.length_eq]; exact HI.out.len
    refine (take_any g v l came lost a.f2 a.f3 W0 wa HQA.out HBWA.out HT.out (fun x hx => (hvals x hx).1) (by omega) (fun x hx => (hvals x hx).2) hr).mono ?_
    rintro e w4 ⟨v7, v8, l', rfl, hp', hs', hR7, hQ8, hx⟩
    obtain rfl := HI.out.sorted hp' hs'
    obtain ⟨out, hout⟩ : ∃ out, out = (takeL l' a.f2 a.f3).1 := ⟨_, rfl⟩
    rw [← hout] at hR7
    have HOUT := Aside0.mk hout
    have HQ4 := Aside0.mk hQ8
    have HX4 := Aside0.mk hx
    have HB4 := Aside0.mk (hx.below HQA.out HBWA.out)
    have HU4 := Aside0.mk (Kd.V_step HUA.out (fun k hk hlt => hx.keep.2 k hlt (fun e => hk.2 (by rw [e]; exact HSG.out)) (fun e => hk.2 (HSV.out k e.symm))))
    have bk4 := hx.blk HQA.out HBK4.out (by decide) (by decide)
    have bk5 := hx.blk HQA.out HBK5.out (by decide) (by decide)
    have bk6 := hx.blk HQA.out HBK6.out (by decide) (by decide)
    have hn7 : out.length ≤ 999 := by
      rw [hout]
      have := takeL_len l' a.f2 a.f3
      have := HI.out.len
      omega
    have y0 := (blk_cell bk4 0).trans rfl
    have y1 := (blk_cell bk4 1).trans rfl
    have y2 := (blk_cell bk4 2).trans rfl
    have z6 := (blk_cell bk5 6).trans rfl
    have z7 := (blk_cell bk5 7).trans rfl
    have HBK6' := Aside0.mk bk6
    obtain ⟨A7, c7, h7, hc7, hC7⟩ := Kd.R_reads hR7
    obtain ⟨n7, hn7'⟩ : ∃ n7, n7 = out.length := ⟨_, rfl⟩
    rw [← hn7'] at h7
    subst h7
    have HR7 := Aside0.mk hR7
    have HN7 := Aside0.mk hn7'
    have HTK := Aside0.mk (show Calls Tryd.prog 28 #[.agg #[.slice A0 n0 c0, .int .i64 came, .int .i64 lost], .int .i64 a.f2, .int .i64 a.f3] w4 _ by
      obtain ⟨A1, c1, h1, hc1, hC1⟩ := V_reads HU4.out
      obtain ⟨rfl, hnn, rfl⟩ : A0 = A1 ∧ n0 = (List.map cv l').length ∧ c0 = c1 := by simpa using h1
      rw [hnn]
      exact watchfireref14_Queue_Take.calls 1000 A0 c0 (List.map cv l') came lost a.f2 a.f3 ((refTake l' a.f2 a.f3).map cv) came lost out w4 hC1 hc1 (by rw [hout]; exact take_f l' came lost a.f2 a.f3 HI.out.len HVL.out hr))
    clear hp' hs' hR7 hQ8 hx bk4 bk5 bk6 hc7 hC7 hn7' hout hvals hvalL
    go_wp2_with (fail)
    refine HTK.out.mono ?_
    rintro e w5 ⟨v0, v3, rfl, hr1, hr4, hb5⟩
    obtain ⟨A8, c8, h8, _, _⟩ := Kd.R_reads hr4
    obtain ⟨A9, c9, h9, _, _⟩ := Kd.R_reads hr1
    obtain ⟨n9, hn9⟩ : ∃ n9, n9 = ((refTake l' a.f2 a.f3).map cv).length := ⟨_, rfl⟩
    rw [← HN7.out] at h8
    rw [← hn9] at h9
    subst h8
    subst h9
    have HR9 := Aside0.mk hr1
    have HR8 := Aside0.mk hr4
    have HB5 := Aside0.mk hb5
    have HN9 := Aside0.mk hn9
    have bk6 := (hb5.block _ (blk_lt HBK6'.out)).trans HBK6'.out
    have HBK6b := Aside0.mk bk6
    clear hr1 hr4 hb5 hn9 bk6 y0 y1 y2 z6 z7 HTK
    go_wp2_with (fail)
    obtain ⟨q9, hq9⟩ : ∃ q9, q9 = w5.heap.size := ⟨_, rfl⟩
    obtain ⟨wb, hwb⟩ : ∃ wb, wb = w5.alloc (.cells #[.slice A9 n9 c9, .int .i64 came, .int .i64 lost] 38) := ⟨_, rfl⟩
    have BQ := Aside0.mk (show wb.heap[q9]? = some (.cells #[.slice A9 n9 c9, .int .i64 came, .int .i64 lost] 38 (0, 0)) by rw [hwb, hq9]; exact heap_alloc_new w5 _)
    have hba : Below w5.heap.size w5 wb := by rw [hwb]; exact below_alloc (Below.refl _ w5) _
    have QNE := Aside0.mk (show q9 ≠ p + 1 + 1 by have := blk_lt HBK6b.out; omega)
    have BP := Aside0.mk ((hba.block _ (blk_lt HBK6b.out)).trans HBK6b.out)
    have HBB := Aside0.mk (below_then HB5.out HB5.out.size hba)
    have HBW5 := Aside0.mk hba
    have HSW := Aside0.mk (show ∀ W, G6 wb W (p + 1 + 1) → Calls Tryd.prog 29 #[.slice A7 n7 c7, .slice A8 n7 c8] W fun e w' => e = .returned (.bool true) ∧ Below W.heap.size W w' from fun W hG => by
      have e7 := Kd.R_below (Kd.R_below HR7.out HB5.out) hba
      have e8 := Kd.R_below HR8.out hba
      have f7 := r27_g6 e7 hG BP.out
      have f8 := r27_g6 e8 hG BP.out
      obtain ⟨B7, d7, h7, hd7, hC7⟩ := Kd.R_reads f7
      obtain ⟨B8, d8, h8, hd8, hC8⟩ := Kd.R_reads f8
      obtain ⟨rfl, _, rfl⟩ : A7 = B7 ∧ n7 = out.length ∧ c7 = d7 := by simpa using h7
      obtain ⟨rfl, hnn, rfl⟩ : A8 = B8 ∧ n7 = out.length ∧ c8 = d8 := by simpa using h8
      rw [hnn]
      exact (watchfireref10_Same.calls 1000 A7 c7 out A8 c8 out true W hC7 hd7 hC8 hd8 (same_f out hn7)).mono (fun _ _ h => ⟨h.1, h.2.below⟩))
    rw [← hwb, ← hq9]
    clear hwb hq9 hba
    refine Reg.region_list hmix [some 31, some 32, some 33, some 34, none, some 7] [[], [], [], [1, 2], [0, 3, 0], [3, 4, 0, 1, 2, 3, 4]] (fun w => G6 wb w (p + 1 + 1) ∧ ∃ b0 b1 b2, w.heap[p + 1 + 1]? = some (.cells #[b0, b1, b2] 38 (0, 0))) (fun w w' => w.heap[p + 1 + 1]? = some (.cells #[.slice A9 n9 c9, .int .i64 came, .int .i64 lost] 38 (0, 0)) → w'.heap[p + 1 + 1]? = some (.cells #[.slice A9 n9 c9, .int .i64 came, .int .i64 lost] 38 (0, 0))) [(fun v w => v = (.agg #[.slice A9 n9 c9, .int .i64 came, .int .i64 lost] : Value)), (fun v w => v = (.slice A7 n7 c7 : Value)), (fun v w => v = (.slice A8 n7 c8 : Value)), (fun v w => v = (.bool true : Value)), (fun v w => w.heap[p + 1 + 1]? = some (.cells #[.slice A9 n9 c9, .int .i64 came, .int .i64 lost] 38 (0, 0))), (fun v w => v = (.bool true : Value))] rfl (by kernel_rfl) (by kernel_rfl) (fun _ h => h) (fun _ _ hr => Reg.mono_cons (fun _ h => h) (Reg.mono_cons (fun _ h => h) (Reg.mono_cons (fun _ h => h) (Reg.mono_cons (fun _ h => h) (Reg.mono_cons (fun _ h => hr h) (Reg.mono_cons (fun _ h => h) (Reg.mono_nil))))))) (⟨(G6.refl wb _).below (Below.refl _ _).drew, _, _, _, blk_drew BP.out⟩) ?hs ?he
    case hs =>
      intro xs0 xs hx0 hl0_ wr hG
      clear hx0
      obtain ⟨x0, xs1, rfl, hl1⟩ := Reg.len_succ hl0_
      obtain ⟨x1, xs2, rfl, hl2⟩ := Reg.len_succ hl1
      obtain ⟨x2, xs3, rfl, hl3⟩ := Reg.len_succ hl2
      obtain ⟨x3, xs4, rfl, hl4⟩ := Reg.len_succ hl3
      obtain ⟨x4, xs5, rfl, hl5⟩ := Reg.len_succ hl4
      obtain ⟨x5, xs6, rfl, hl6⟩ := Reg.len_succ hl5
      obtain rfl := List.eq_nil_of_length_eq_zero hl6
      clear hl0_ hl1 hl2 hl3 hl4 hl5 hl6
      simp only [Reg.putL, Act.put, List.setIfInBounds_toArray, List.set_cons_succ, List.set_cons_zero]
      have kq := (hG.1.block q9 (blk_lt BQ.out) QNE.out).trans BQ.out; have r0 := (blk_cell kq 0).trans rfl; have r1 := (blk_cell kq 1).trans rfl; have r2 := (blk_cell kq 2).trans rfl; clear kq
      refine ⟨fun hf _ => ?_, ?_⟩
      · clear hf
        refine .inl ⟨by rfl, ?_⟩
        simp only [Reg.ung]
        go_wp2
        exact ⟨_, rfl, hG, (fun _ h => h) _, rfl⟩
      refine ⟨fun hf _ => ?_, ?_⟩
      · clear hf
        refine .inl ⟨by rfl, ?_⟩
        simp only [Reg.ung]
        go_wp2
        exact ⟨_, rfl, hG, (fun _ h => h) _, rfl⟩
      refine ⟨fun hf _ => ?_, ?_⟩
      · clear hf
        refine .inl ⟨by rfl, ?_⟩
        simp only [Reg.ung]
        go_wp2
        exact ⟨_, rfl, hG, (fun _ h => h) _, rfl⟩
      refine ⟨fun hf _ => ?_, ?_⟩
      · obtain ⟨hq0, hq1, -⟩ := hf
        obtain rfl : x1 = _ := hq0
        obtain rfl : x2 = _ := hq1
        refine .inl ⟨by rfl, ?_⟩
        simp only [Reg.ung]
        go_wp2_with ((go_at_call 29; refine (HSW.out _ hG.1).mono ?_; rintro en w' ⟨rfl, hb⟩)); exact ⟨_, rfl, ⟨hG.1.below hb, by obtain ⟨b0, b1, b2, hbk⟩ := hG.2; exact ⟨b0, b1, b2, (hb.block _ (blk_lt hbk)).trans hbk⟩⟩, fun h => (hb.block _ (blk_lt h)).trans h, rfl⟩
      refine ⟨fun hf _ => ?_, ?_⟩
      · obtain ⟨hq0, -, -, -⟩ := hf
        obtain rfl : x0 = _ := hq0
        refine .inl ⟨by rfl, ?_⟩
        simp only [Reg.ung]
        obtain ⟨hG1, b0, b1, b2, hbk⟩ := hG; have s0 := (blk_cell hbk 0).trans rfl; have s1 := (blk_cell hbk 1).trans rfl; have s2 := (blk_cell hbk 2).trans rfl; have t0 := blk_frozen hbk 0;  have t1 := blk_frozen hbk 1;  have t2 := blk_frozen hbk 2; have hbk0 := hbk; have HG1 := Aside0.mk hG1; clear hbk hG1; have HFIN := Aside0.mk (blk_put (blk_put (blk_put hbk0 0 (.slice A9 n9 c9) rfl) 1 (.int .i64 came) rfl) 2 (.int .i64 lost) rfl); clear hbk0; go_wp2; exact ⟨undef, rfl, ⟨((HG1.out.set 0 _).set 1 _).set 2 _, _, _, _, HFIN.out⟩, fun _ => HFIN.out, HFIN.out⟩
      refine ⟨fun hf _ => ?_, ?_⟩
      · obtain ⟨hq0, -, -, -, -, -, -, -⟩ := hf
        obtain rfl : x3 = _ := hq0
        refine .inl ⟨by rfl, ?_⟩
        simp only [Reg.ung]
        go_wp2
        exact ⟨_, rfl, hG, (fun _ h => h) _, rfl⟩
      exact trivial
    case he =>
      intro xs hl0_ wr hG hf
      obtain ⟨x0, xs1, rfl, hl1⟩ := Reg.len_succ hl0_
      obtain ⟨x1, xs2, rfl, hl2⟩ := Reg.len_succ hl1
      obtain ⟨x2, xs3, rfl, hl3⟩ := Reg.len_succ hl2
      obtain ⟨x3, xs4, rfl, hl4⟩ := Reg.len_succ hl3
      obtain ⟨x4, xs5, rfl, hl5⟩ := Reg.len_succ hl4
      obtain ⟨x5, xs6, rfl, hl6⟩ := Reg.len_succ hl5
      obtain rfl := List.eq_nil_of_length_eq_zero hl6
      clear hl0_ hl1 hl2 hl3 hl4 hl5 hl6
      obtain ⟨hq0, hq1, hq2, hq3, hq4, hq5, -⟩ := hf
      obtain rfl : x0 = _ := hq0
      obtain rfl : x1 = _ := hq1
      obtain rfl : x2 = _ := hq2
      obtain rfl : x3 = _ := hq3
      replace hq4 : wr.heap[p + 1 + 1]? = some (.cells #[.slice A9 n9 c9, .int .i64 came, .int .i64 lost] 38 (0, 0)) := hq4
      obtain rfl : x5 = _ := hq5
      simp only [Reg.putL, Act.put, List.setIfInBounds_toArray, List.set_cons_succ, List.set_cons_zero]
      have r0 := (blk_cell hq4 0).trans rfl
      have r1 := (blk_cell hq4 1).trans rfl
      have r2 := (blk_cell hq4 2).trans rfl
      have HGG := Aside0.mk hG.1
      have HQ4r := Aside0.mk hq4
      clear hq4 hG
      go_wp2_with (fail)
      refine bodyPost_ret (results_ct rfl _ _ (p + 1 + 1) 38 _ (0, 0) _ rfl HQ4r.out Tryd.underlying38 rfl (by kernel_rfl)) rfl ?_
      have hp0 : W0.heap.size ≤ p := by rw [HP.out]; exact HB.out.size
      have hinv := HI.out.take a.f2 a.f3
      have hS4 : ∀ k, (S k ∨ v8.ownBlock = some k) → k < w4.heap.size := fun k hk => by
        rcases hk with hk | hk
        · exact Nat.lt_of_lt_of_le (HSL.out k hk) (Nat.le_trans HBA.out.size HX4.out.size)
        · exact (HQ4.out.row.bound hk).2.2.1
      refine ⟨v8, .slice A9 n9 c9, (takeL l' a.f2 a.f3).2, refTake l' a.f2 a.f3, came, lost, rfl, ((HQ4.out.below HB5.out).below HBW5.out).g6 HGG.out BP.out, UV.of_R (r69_g6 (Kd.R_below HR9.out HBW5.out) HGG.out BP.out) hS4, hinv, HGG.out.toBelow (below_then HB4.out HB4.out.size HBB.out) (by omega), ?_, fun b hb => ?_⟩
      · have k1 := (Kept.of_below HBA.out (fun k => k = g ∨ (Value.slice A0 n0 c0).ownBlock = some k ∨ v.ownBlock = some k))
        have k2 : Kept w w4 (fun k => k = g ∨ v.ownBlock = some k) := (Kept.of_below HBA.out _).then_ HX4.out.kept2 (fun _ h => .inl h)
        have k3 := k2.below HBB.out
        exact k3.then_ (HGG.out.kept) (fun k hk => .inr (by rw [hk, HP.out]; omega))
      · rcases HX4.out.own b hb with h | h
        · exact .inl h
        · exact .inr (Nat.le_trans HBA.out.size h)
  | false =>
    go_enter Tryd.func15, Tryd.ntmps15
    go_wp2_with (fail)
    obtain ⟨p, hp⟩ : ∃ p, p = w.heap.size := ⟨_, rfl⟩
    obtain ⟨wa, hwa⟩ : ∃ wa, wa = ((w.alloc (.cells #[.slice A0 n0 c0, .int .i64 came, .int .i64 lost] 38)).alloc (.cells #[.bool false, .string a.f1.f0, .int .i64 a.f1.f1, .int .u16 a.f1.f2, .string a.f1.f3, .int .i64 a.f1.f4, .int .i64 a.f2, .int .i64 a.f3] 42)).alloc (.cells #[.slice none 0 0, .int .i64 0, .int .i64 0] 38) := ⟨_, rfl⟩
    rw [← hwa, ← hp]
    have hb3 : Below w.heap.size w wa := by rw [hwa]; exact below_alloc (below_alloc (below_alloc (Below.refl _ w) _) _) _
    have bk4 : wa.heap[p]? = some (.cells #[.slice A0 n0 c0, .int .i64 came, .int .i64 lost] 38 (0, 0)) := by rw [hwa, hp]; exact (heap_alloc_old _ _ (by simp; omega)).trans ((heap_alloc_old _ _ (by simp)).trans (heap_alloc_new w _))
    have bk5 : wa.heap[p + 1]? = some (.cells #[.bool false, .string a.f1.f0, .int .i64 a.f1.f1, .int .u16 a.f1.f2, .string a.f1.f3, .int .i64 a.f1.f4, .int .i64 a.f2, .int .i64 a.f3] 42 (0, 0)) := by
      rw [hwa, hp]
      have h := heap_alloc_new (w.alloc (.cells #[.slice A0 n0 c0, .int .i64 came, .int .i64 lost] 38)) (.cells #[.bool false, .string a.f1.f0, .int .i64 a.f1.f1, .int .u16 a.f1.f2, .string a.f1.f3, .int .i64 a.f1.f4, .int .i64 a.f2, .int .i64 a.f3] 42)
      rw [show (w.alloc (.cells #[.slice A0 n0 c0, .int .i64 came, .int .i64 lost] 38)).heap.size = w.heap.size + 1 by simp] at h
      exact (heap_alloc_old _ _ (by simp)).trans h
    have bk6 : wa.heap[p + 1 + 1]? = some (.cells #[.slice none 0 0, .int .i64 0, .int .i64 0] 38 (0, 0)) := by
      rw [hwa, hp]
      have h := heap_alloc_new ((w.alloc (.cells #[.slice A0 n0 c0, .int .i64 came, .int .i64 lost] 38)).alloc (.cells #[.bool false, .string a.f1.f0, .int .i64 a.f1.f1, .int .u16 a.f1.f2, .string a.f1.f3, .int .i64 a.f1.f4, .int .i64 a.f2, .int .i64 a.f3] 42)) (.cells #[.slice none 0 0, .int .i64 0, .int .i64 0] 38)
      rw [show ((w.alloc (.cells #[.slice A0 n0 c0, .int .i64 came, .int .i64 lost] 38)).alloc (.cells #[.bool false, .string a.f1.f0, .int .i64 a.f1.f1, .int .u16 a.f1.f2, .string a.f1.f3, .int .i64 a.f1.f4, .int .i64 a.f2, .int .i64 a.f3] 42)).heap.size = w.heap.size + 1 + 1 by simp] at h
      exact h
    have HBA := Aside0.mk hb3
    have HQA := Aside0.mk (HQ.out.below hb3)
    have HUA := Aside0.mk (show Kd.V k69 69 wa 0 (fun k => k < w.heap.size ∧ ¬ S k) (.slice A0 n0 c0) (List.map cv L) from Kd.V_below HU.out hb3)
    have HBWA := Aside0.mk (below_then HB.out HB.out.size hb3)
    have HBK4 := Aside0.mk bk4
    have HBK5 := Aside0.mk bk5
    have HBK6 := Aside0.mk bk6
    have HP := Aside0.mk hp
    clear hb3 bk4 bk5 bk6 hwa hp hf
    have hll : l.length ≤ 32 := by rw [HI.out.perm.length_eq]; exact HI.out.len
    refine (push_all g v l came lost a.f1 W0 wa HQA.out HBWA.out hll HI.out.came0 (by have := HI.out.came1; omega) HI.out.lost0 (by have := HI.out.lost1; omega)).mono ?_
    rintro e w4 ⟨rfl, v4, l4, lost4, hn, hx, hq⟩
    obtain ⟨L4, hrp, hinv⟩ := HI.out.push a.f1 hn
    obtain ⟨pb, hpb⟩ : ∃ pb, pb = pushB l a.f1 := ⟨_, rfl⟩
    rw [← hpb] at hrp hinv hq ⊢
    obtain ⟨cm, hcm⟩ : ∃ cm, cm = (if pb = true then came + 1 else came) := ⟨_, rfl⟩
    rw [← hcm] at hrp hinv hq
    have HINV := Aside0.mk hinv
    have HQ4 := Aside0.mk hq
    have HX4 := Aside0.mk hx
    have HB4 := Aside0.mk (hx.below HQA.out HBWA.out)
    have HU4 := Aside0.mk (Kd.V_step HUA.out (fun k hk hlt => hx.keep.2 k hlt (fun e => hk.2 (by rw [e]; exact HSG.out)) (fun e => hk.2 (HSV.out k e.symm))))
    have bk4 := hx.blk HQA.out HBK4.out (by decide) (by decide)
    have bk5 := hx.blk HQA.out HBK5.out (by decide) (by decide)
    have bk6 := hx.blk HQA.out HBK6.out (by decide) (by decide)
    have y0 := (blk_cell bk4 0).trans rfl
    have y1 := (blk_cell bk4 1).trans rfl
    have y2 := (blk_cell bk4 2).trans rfl
    have z1 := (blk_cell bk5 1).trans rfl
    have z2 := (blk_cell bk5 2).trans rfl
    have z3 := (blk_cell bk5 3).trans rfl
    have z4 := (blk_cell bk5 4).trans rfl
    have z5 := (blk_cell bk5 5).trans rfl
    have HBK6' := Aside0.mk bk6
    have HTK := Aside0.mk (show Calls Tryd.prog 30 #[.agg #[.slice A0 n0 c0, .int .i64 came, .int .i64 lost], .agg #[.string a.f1.f0, .int .i64 a.f1.f1, .int .u16 a.f1.f2, .string a.f1.f3, .int .i64 a.f1.f4]] w4 _ by
      have hnn := HN0.out
      have hv := HU4.out
      rw [hnn] at hv ⊢
      exact PV.watchfireref14_Queue_Push.calls 1000 (fun k => k < w.heap.size ∧ ¬ S k) A0 c0 (List.map cv L) came lost a.f1.f0 a.f1.f1 a.f1.f2 a.f1.f3 a.f1.f4 (L4.map cv) cm lost4 pb w4 hv (by rw [push_f L came lost a.f1 HI.out.len HI.out.came0 (by have := HI.out.came1; omega) HI.out.lost0 (by have := HI.out.lost1; omega), hrp]))
    clear hn hx hq hrp hinv bk4 bk5 bk6 hpb hcm
    go_wp2_with (fail)
    refine HTK.out.mono ?_
    rintro e w5 ⟨v0, rfl, hr1, hb5⟩
    obtain ⟨A9, c9, h9, _, _⟩ := V_reads hr1
    obtain ⟨n9, hn9⟩ : ∃ n9, n9 = (L4.map cv).length := ⟨_, rfl⟩
    rw [← hn9] at h9
    subst h9
    have HR9 := Aside0.mk hr1
    have HB5 := Aside0.mk hb5
    have bk6 := (hb5.block _ (blk_lt HBK6'.out)).trans HBK6'.out
    have HBK6b := Aside0.mk bk6
    have r0 := (blk_cell bk6 0).trans rfl
    have r1 := (blk_cell bk6 1).trans rfl
    have r2 := (blk_cell bk6 2).trans rfl
    have t0 := blk_frozen bk6 0
    have t1 := blk_frozen bk6 1
    have t2 := blk_frozen bk6 2
    have hp6 := blk_lt bk6
    clear hr1 hb5 hn9 bk6 y0 y1 y2 z1 z2 z3 z4 z5 HTK
    go_wp2_with (fail)
    have HG := Aside0.mk ((((((G6.refl w5 (p + 1 + 1)).set 0 (.slice A9 n9 c9)).set 1 (.int .i64 cm)).set 2 (.int .i64 lost4))).below (below_alloc (Below.refl _ _) (.cells #[.slice A9 n9 c9, .int .i64 cm, .int .i64 lost4] 38)))
    have HFIN := Aside0.mk (blk_put (blk_put (blk_put HBK6b.out 0 (.slice A9 n9 c9) rfl) 1 (.int .i64 cm) rfl) 2 (.int .i64 lost4) rfl)
    have HFIN2 := Aside0.mk ((heap_alloc_old _ (.cells #[.slice A9 n9 c9, .int .i64 cm, .int .i64 lost4] 38) (blk_lt HFIN.out)).trans HFIN.out)
    refine bodyPost_ret (results_ct rfl _ _ (p + 1 + 1) 38 _ (0, 0) _ rfl HFIN2.out Tryd.underlying38 rfl (by kernel_rfl)) rfl ?_
    have hp0 : W0.heap.size ≤ p := by rw [HP.out]; exact HB.out.size
    have hq5 := HQ4.out.below HB5.out
    have hp4 := blk_lt HBK6'.out
    refine ⟨v4, .slice A9 n9 c9, l4, L4, cm, lost4, rfl, hq5.g6 HG.out HBK6b.out, ?_, HINV.out, HG.out.toBelow (below_then HB4.out HB4.out.size HB5.out) (by omega), ?_, fun b hb => ?_⟩
    · refine Kd.V_mono (base := 0) (Kd.V_step (Kd.V_bound HR9.out) (fun k hk hlt => HG.out.block k hlt (fun e => ?_))) (fun k hk => ⟨Nat.lt_of_lt_of_le hk.2 HG.out.size, fun hs => ?_⟩)
      · rcases hk.1 with h | h
        · have := h.1; have := HP.out; omega
        · omega
      · rcases hs with hs | hs
        · rcases hk.1 with h | h
          · exact h.2 hs
          · have := HSL.out k hs; have := HBA.out.size; have := HX4.out.size; omega
        · rcases hk.1 with h | h
          · rcases HX4.out.own k hs with h3 | h3
            · exact h.2 (HSV.out k h3)
            · have := h.1; have := HBA.out.size; omega
          · have := (HQ4.out.row.bound hs).2.2.1; omega
    · have k2 : Kept w w4 (fun k => k = g ∨ v.ownBlock = some k) := (Kept.of_below HBA.out _).then_ HX4.out.kept2 (fun _ h => .inl h)
      have k3 := k2.below HB5.out
      exact k3.then_ (HG.out.kept) (fun k hk => .inr (by rw [hk, HP.out]; omega))
    · rcases HX4.out.own b hb with h | h
      · exact .inl h
      · exact .inr (Nat.le_trans HBA.out.size h)
end Go.Proofs.YtmifpookhhkgeaaDoor.Q
