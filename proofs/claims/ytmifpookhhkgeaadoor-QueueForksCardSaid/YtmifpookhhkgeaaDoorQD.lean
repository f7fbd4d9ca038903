/- Fork of a queue. -/
import Derived.Test.YtmifpookhhkgeaaDoorQC
set_option linter.unusedVariables false
set_option linter.unusedSimpArgs false
namespace Go.Proofs.YtmifpookhhkgeaaDoor.Q
open Go.RowKit Go.Shelf Go.Lib Go.Sort Go.Proofs.YtmifpookhhkgeaaDoorW.PrintWords Go.Proofs.YtmifpookhhkgeaaDoor.P
theorem clone_all (A : Option Addr) (c : Nat) (l : List S47) (B : Nat) (w : World) (h : Kd.C k47 w A l.length l) (hn : l = [] → (Value.slice A l.length c) = .slice none 0 0) (h8 : l.length ≤ 1000000) (hB : B ≤ w.heap.size) :
    Calls Tryd.prog 31 #[.slice A l.length c] w fun e w' => ∃ v, e = .returned v ∧ Kd.R k47 47 w' B (fun _ => True) v l ∧ (l = [] → v = .slice none 0 0) ∧ Below w.heap.size w w' := by
  by_cases hl : l.length = 0
  · have hl0 : l = [] := List.eq_nil_of_length_eq_zero hl
    subst hl0
    obtain ⟨rfl, rfl⟩ : A = none ∧ c = 0 := by have := hn rfl; simpa using this
    refine (clone_nil 0 0 w).mono ?_
    rintro e w1 ⟨rfl, rfl⟩
    exact ⟨_, rfl, Kd.R_nil _ _ _ _ _, fun _ => rfl, Below.refl _ _⟩
  · refine (clone_any A c l w h (by omega) h8).mono ?_
    rintro e w1 ⟨v, rfl, ho, hne, hb⟩
    exact ⟨v, rfl, Kd.R_lower (R_of_flat (fun _ => True) (fun _ _ => trivial) ho) hB, fun e => absurd (by rw [e]; rfl) hl, hb⟩
set_option maxHeartbeats 2000000 in
theorem fork_any (B g : Nat) (v : Value) (l : List S47) (came lost : Int) (w : World) (h : Qv B w g v l came lost) (h8 : l.length ≤ 1000000) :
    Calls Tryd.prog 21 #[.pointer (some ⟨g, 0, none⟩)] w fun e w' => ∃ v2 g2, e = .returned (.pointer (some ⟨g2, 0, none⟩)) ∧ Qv w.heap.size w' g2 v2 l came lost ∧ Below w.heap.size w w' := by
  obtain ⟨A, c, rfl, hc, hC⟩ := h.reads
  have hcl : ∀ W, Below w.heap.size w W → Calls Tryd.prog 31 #[.slice A l.length c] W fun e w' => ∃ v, e = .returned v ∧ Kd.R k47 47 w' w.heap.size (fun _ => True) v l ∧ (l = [] → v = .slice none 0 0) ∧ Below W.heap.size W w' := fun W hW => clone_all A c l w.heap.size W (Kd.C_below hC hW) h.nil h8 hW.size
  obtain ⟨n, hn⟩ : ∃ n, n = l.length := ⟨_, rfl⟩
  have hk := h.cell
  rw [← hn] at hk hcl
  have C0 : w.cell? ⟨g, 0, none⟩ = some (.slice A n c) := (blk_cell hk 0).trans rfl
  have C1 : w.cell? ⟨g, 1, none⟩ = some (.int .i64 came) := (blk_cell hk 1).trans rfl
  have C2 : w.cell? ⟨g, 2, none⟩ = some (.int .i64 lost) := (blk_cell hk 2).trans rfl
  have HCL := Aside0.mk hcl
  obtain ⟨wa, hwa⟩ : ∃ wa, wa = w := ⟨_, rfl⟩
  subst hwa
  clear h hk hc hC hn h8 hcl
  go_enter Tryd.func21, Tryd.ntmps21
  go_wp2_with (fail)
  refine Reg.region_list hmix [some 5, some 6, some 7, some 8, some 9, some 10, some 11, some 12, some 13, some 14, some 15, some 16, some 17, some 18, some 19, some 2] [[], [0], [1], [2], [3], [], [5], [6], [7], [], [9], [10], [11], [4, 8, 12], [13], [14, 4, 0, 1, 2, 3, 4, 5, 6, 7, 8, 9, 10, 11, 12, 13, 14]] (fun w => Below wa.heap.size wa w) (fun w w' => Below w.heap.size w w') [(fun v w => v = (.pointer (some ⟨g, 0, none⟩) : Value)), (fun v w => v = (.pointer (some ⟨g, 0, none⟩) : Value)), (fun v w => v = (.pointer (some ⟨g, 0, none⟩) : Value)), (fun v w => v = (.slice A n c : Value)), (fun v w => Kd.R k47 47 w wa.heap.size (fun _ => True) v l ∧ (l = [] → v = .slice none 0 0)), (fun v w => v = (.pointer (some ⟨g, 0, none⟩) : Value)), (fun v w => v = (.pointer (some ⟨g, 0, none⟩) : Value)), (fun v w => v = (.pointer (some ⟨g, 1, none⟩) : Value)), (fun v w => v = (.int .i64 came : Value)), (fun v w => v = (.pointer (some ⟨g, 0, none⟩) : Value)), (fun v w => v = (.pointer (some ⟨g, 0, none⟩) : Value)), (fun v w => v = (.pointer (some ⟨g, 2, none⟩) : Value)), (fun v w => v = (.int .i64 lost : Value)), (fun v w => ∃ v4, v = .agg #[v4, .int .i64 came, .int .i64 lost] ∧ Kd.R k47 47 w wa.heap.size (fun _ => True) v4 l ∧ (l = [] → v4 = .slice none 0 0)), (fun v w => ∃ v4 g2, v = .pointer (some ⟨g2, 0, none⟩) ∧ Qv wa.heap.size w g2 v4 l came lost), (fun v w => ∃ v4 g2, v = .pointer (some ⟨g2, 0, none⟩) ∧ Qv wa.heap.size w g2 v4 l came lost)] rfl (by kernel_rfl) (by kernel_rfl) (fun w => Below.refl w.heap.size w) (fun _ _ hr => Reg.mono_cons (fun _ h => h) (Reg.mono_cons (fun _ h => h) (Reg.mono_cons (fun _ h => h) (Reg.mono_cons (fun _ h => h) (Reg.mono_cons (fun _ h => ⟨Kd.R_below h.1 hr, h.2⟩) (Reg.mono_cons (fun _ h => h) (Reg.mono_cons (fun _ h => h) (Reg.mono_cons (fun _ h => h) (Reg.mono_cons (fun _ h => h) (Reg.mono_cons (fun _ h => h) (Reg.mono_cons (fun _ h => h) (Reg.mono_cons (fun _ h => h) (Reg.mono_cons (fun _ h => h) (Reg.mono_cons (fun _ ⟨v4, h1, h2, h3⟩ => ⟨v4, h1, Kd.R_below h2 hr, h3⟩) (Reg.mono_cons (fun _ ⟨v4, g2, h1, h2⟩ => ⟨v4, g2, h1, h2.below hr⟩) (Reg.mono_cons (fun _ ⟨v4, g2, h1, h2⟩ => ⟨v4, g2, h1, h2.below hr⟩) (Reg.mono_nil))))))))))))))))) ((Below.refl _ _).drew) ?hs ?he
  case hs =>
    intro xs0 xs hx0 hl0_ wr hG
    clear hx0
    obtain ⟨x0, xs1, rfl, hl1⟩ := Reg.len_succ hl0_
    obtain ⟨x1, xs2, rfl, hl2⟩ := Reg.len_succ hl1
    obtain ⟨x2, xs3, rfl, hl3⟩ := Reg.len_succ hl2
    obtain ⟨x3, xs4, rfl, hl4⟩ := Reg.len_succ hl3
    obtain ⟨x4, xs5, rfl, hl5⟩ := Reg.len_succ hl4
    obtain ⟨x5, xs6, rfl, hl6⟩ := Reg.len_succ hl5
    obtain ⟨x6, xs7, rfl, hl7⟩ := Reg.len_succ hl6
    obtain ⟨x7, xs8, rfl, hl8⟩ := Reg.len_succ hl7
    obtain ⟨x8, xs9, rfl, hl9⟩ := Reg.len_succ hl8
    obtain ⟨x9, xs10, rfl, hl10⟩ := Reg.len_succ hl9
    obtain ⟨x10, xs11, rfl, hl11⟩ := Reg.len_succ hl10
    obtain ⟨x11, xs12, rfl, hl12⟩ := Reg.len_succ hl11
    obtain ⟨x12, xs13, rfl, hl13⟩ := Reg.len_succ hl12
    obtain ⟨x13, xs14, rfl, hl14⟩ := Reg.len_succ hl13
    obtain ⟨x14, xs15, rfl, hl15⟩ := Reg.len_succ hl14
    obtain ⟨x15, xs16, rfl, hl16⟩ := Reg.len_succ hl15
    obtain rfl := List.eq_nil_of_length_eq_zero hl16
    clear hl0_ hl1 hl2 hl3 hl4 hl5 hl6 hl7 hl8 hl9 hl10 hl11 hl12 hl13 hl14 hl15 hl16
    simp only [Reg.putL, Act.put, List.setIfInBounds_toArray, List.set_cons_succ, List.set_cons_zero]
    have c0 := (hG.cell (World.block_lt_of_cell? wa _ C0)).trans C0; have c1 := (hG.cell (World.block_lt_of_cell? wa _ C1)).trans C1; have c2 := (hG.cell (World.block_lt_of_cell? wa _ C2)).trans C2
    refine ⟨fun hf _ => ?_, ?_⟩
    · clear hf
      refine .inl ⟨by rfl, ?_⟩
      simp only [Reg.ung]
      go_wp2
      exact ⟨_, rfl, hG, (fun w => Below.refl w.heap.size w) _, rfl⟩
    refine ⟨fun hf _ => ?_, ?_⟩
    · obtain ⟨hq0, -⟩ := hf
      obtain rfl : x0 = _ := hq0
      refine .inl ⟨by rfl, ?_⟩
      simp only [Reg.ung]
      go_wp2
      exact ⟨_, rfl, hG, (fun w => Below.refl w.heap.size w) _, rfl⟩
    refine ⟨fun hf _ => ?_, ?_⟩
    · obtain ⟨hq0, -⟩ := hf
      obtain rfl : x1 = _ := hq0
      refine .inl ⟨by rfl, ?_⟩
      simp only [Reg.ung]
      go_wp2
      exact ⟨_, rfl, hG, (fun w => Below.refl w.heap.size w) _, rfl⟩
    refine ⟨fun hf _ => ?_, ?_⟩
    · obtain ⟨hq0, -⟩ := hf
      obtain rfl : x2 = _ := hq0
      refine .inl ⟨by rfl, ?_⟩
      simp only [Reg.ung]
      go_wp2
      exact ⟨_, rfl, hG, (fun w => Below.refl w.heap.size w) _, rfl⟩
    refine ⟨fun hf _ => ?_, ?_⟩
    · obtain ⟨hq0, -⟩ := hf
      obtain rfl : x3 = _ := hq0
      refine .inl ⟨by rfl, ?_⟩
      simp only [Reg.ung]
      go_wp2_with ((go_at_call 31; refine (HCL.out _ hG).mono ?_; rintro e w' ⟨v4, rfl, hr4, hn4, hb4⟩)); exact ⟨_, rfl, below_then hG hG.size hb4, hb4, hr4, hn4⟩
    refine ⟨fun hf _ => ?_, ?_⟩
    · clear hf
      refine .inl ⟨by rfl, ?_⟩
      simp only [Reg.ung]
      go_wp2
      exact ⟨_, rfl, hG, (fun w => Below.refl w.heap.size w) _, rfl⟩
    refine ⟨fun hf _ => ?_, ?_⟩
    · obtain ⟨hq0, -⟩ := hf
      obtain rfl : x5 = _ := hq0
      refine .inl ⟨by rfl, ?_⟩
      simp only [Reg.ung]
      go_wp2
      exact ⟨_, rfl, hG, (fun w => Below.refl w.heap.size w) _, rfl⟩
    refine ⟨fun hf _ => ?_, ?_⟩
    · obtain ⟨hq0, -⟩ := hf
      obtain rfl : x6 = _ := hq0
      refine .inl ⟨by rfl, ?_⟩
      simp only [Reg.ung]
      go_wp2
      exact ⟨_, rfl, hG, (fun w => Below.refl w.heap.size w) _, rfl⟩
    refine ⟨fun hf _ => ?_, ?_⟩
    · obtain ⟨hq0, -⟩ := hf
      obtain rfl : x7 = _ := hq0
      refine .inl ⟨by rfl, ?_⟩
      simp only [Reg.ung]
      go_wp2
      exact ⟨_, rfl, hG, (fun w => Below.refl w.heap.size w) _, rfl⟩
    refine ⟨fun hf _ => ?_, ?_⟩
    · clear hf
      refine .inl ⟨by rfl, ?_⟩
      simp only [Reg.ung]
      go_wp2
      exact ⟨_, rfl, hG, (fun w => Below.refl w.heap.size w) _, rfl⟩
    refine ⟨fun hf _ => ?_, ?_⟩
    · obtain ⟨hq0, -⟩ := hf
      obtain rfl : x9 = _ := hq0
      refine .inl ⟨by rfl, ?_⟩
      simp only [Reg.ung]
      go_wp2
      exact ⟨_, rfl, hG, (fun w => Below.refl w.heap.size w) _, rfl⟩
    refine ⟨fun hf _ => ?_, ?_⟩
    · obtain ⟨hq0, -⟩ := hf
      obtain rfl : x10 = _ := hq0
      refine .inl ⟨by rfl, ?_⟩
      simp only [Reg.ung]
      go_wp2
      exact ⟨_, rfl, hG, (fun w => Below.refl w.heap.size w) _, rfl⟩
    refine ⟨fun hf _ => ?_, ?_⟩
    · obtain ⟨hq0, -⟩ := hf
      obtain rfl : x11 = _ := hq0
      refine .inl ⟨by rfl, ?_⟩
      simp only [Reg.ung]
      go_wp2
      exact ⟨_, rfl, hG, (fun w => Below.refl w.heap.size w) _, rfl⟩
    refine ⟨fun hf _ => ?_, ?_⟩
    · obtain ⟨hq0, hq1, hq2, -⟩ := hf
      replace hq0 : Kd.R k47 47 wr wa.heap.size (fun _ => True) x4 l ∧ (l = [] → x4 = .slice none 0 0) := hq0
      obtain rfl : x8 = _ := hq1
      obtain rfl : x12 = _ := hq2
      refine .inl ⟨by rfl, ?_⟩
      simp only [Reg.ung]
      obtain ⟨A4, c4, rfl, _, _⟩ := Kd.R_reads hq0.1; have HQ0 := Aside0.mk hq0; clear hq0; go_wp2; exact ⟨_, rfl, hG, Below.refl _ _, _, rfl, HQ0.out.1, HQ0.out.2⟩
    refine ⟨fun hf _ => ?_, ?_⟩
    · obtain ⟨hq0, -⟩ := hf
      replace hq0 : ∃ v4, x13 = .agg #[v4, .int .i64 came, .int .i64 lost] ∧ Kd.R k47 47 wr wa.heap.size (fun _ => True) v4 l ∧ (l = [] → v4 = .slice none 0 0) := hq0
      refine .inl ⟨by rfl, ?_⟩
      simp only [Reg.ung]
      obtain ⟨v4, rfl, h2, h3⟩ := hq0; obtain ⟨A4, c4, rfl, _, _⟩ := Kd.R_reads h2; have H2 := Aside0.mk h2; have H3 := Aside0.mk h3; clear h2 h3; go_wp2; exact ⟨_, rfl, below_alloc hG _, below_alloc (Below.refl _ _) _, _, _, rfl, ⟨heap_alloc_new _ _, hG.size, WR.of_R (Kd.R_alloc (Kd.R_mono (Kd.R_bound H2.out) (fun k hk => by have := hk.2.2.1; omega)) _), H3.out⟩⟩
    refine ⟨fun hf _ => ?_, ?_⟩
    · obtain ⟨hq0, -, -, -, -, -, -, -, -, -, -, -, -, -, -, -, -, -⟩ := hf
      replace hq0 : ∃ v4 g2, x14 = .pointer (some ⟨g2, 0, none⟩) ∧ Qv wa.heap.size wr g2 v4 l came lost := hq0
      refine .inl ⟨by rfl, ?_⟩
      simp only [Reg.ung]
      obtain ⟨v4, g2, rfl, h2⟩ := hq0; have H2 := Aside0.mk h2; clear h2; go_wp2; exact ⟨_, rfl, hG, Below.refl _ _, v4, g2, rfl, H2.out⟩
    exact trivial
  case he =>
    intro xs hl0_ wr hG hf
    obtain ⟨x0, xs1, rfl, hl1⟩ := Reg.len_succ hl0_
    obtain ⟨x1, xs2, rfl, hl2⟩ := Reg.len_succ hl1
    obtain ⟨x2, xs3, rfl, hl3⟩ := Reg.len_succ hl2
    obtain ⟨x3, xs4, rfl, hl4⟩ := Reg.len_succ hl3
    obtain ⟨x4, xs5, rfl, hl5⟩ := Reg.len_succ hl4
    obtain ⟨x5, xs6, rfl, hl6⟩ := Reg.len_succ hl5
    obtain ⟨x6, xs7, rfl, hl7⟩ := Reg.len_succ hl6
    obtain ⟨x7, xs8, rfl, hl8⟩ := Reg.len_succ hl7
    obtain ⟨x8, xs9, rfl, hl9⟩ := Reg.len_succ hl8
    obtain ⟨x9, xs10, rfl, hl10⟩ := Reg.len_succ hl9
    obtain ⟨x10, xs11, rfl, hl11⟩ := Reg.len_succ hl10
    obtain ⟨x11, xs12, rfl, hl12⟩ := Reg.len_succ hl11
    obtain ⟨x12, xs13, rfl, hl13⟩ := Reg.len_succ hl12
    obtain ⟨x13, xs14, rfl, hl14⟩ := Reg.len_succ hl13
    obtain ⟨x14, xs15, rfl, hl15⟩ := Reg.len_succ hl14
    obtain ⟨x15, xs16, rfl, hl16⟩ := Reg.len_succ hl15
    obtain rfl := List.eq_nil_of_length_eq_zero hl16
    clear hl0_ hl1 hl2 hl3 hl4 hl5 hl6 hl7 hl8 hl9 hl10 hl11 hl12 hl13 hl14 hl15 hl16
    obtain ⟨hq0, hq1, hq2, hq3, hq4, hq5, hq6, hq7, hq8, hq9, hq10, hq11, hq12, hq13, hq14, hq15, -⟩ := hf
    obtain rfl : x0 = _ := hq0
    obtain rfl : x1 = _ := hq1
    obtain rfl : x2 = _ := hq2
    obtain rfl : x3 = _ := hq3
    replace hq4 : Kd.R k47 47 wr wa.heap.size (fun _ => True) x4 l ∧ (l = [] → x4 = .slice none 0 0) := hq4
    obtain rfl : x5 = _ := hq5
    obtain rfl : x6 = _ := hq6
    obtain rfl : x7 = _ := hq7
    obtain rfl : x8 = _ := hq8
    obtain rfl : x9 = _ := hq9
    obtain rfl : x10 = _ := hq10
    obtain rfl : x11 = _ := hq11
    obtain rfl : x12 = _ := hq12
    replace hq13 : ∃ v4, x13 = .agg #[v4, .int .i64 came, .int .i64 lost] ∧ Kd.R k47 47 wr wa.heap.size (fun _ => True) v4 l ∧ (l = [] → v4 = .slice none 0 0) := hq13
    replace hq14 : ∃ v4 g2, x14 = .pointer (some ⟨g2, 0, none⟩) ∧ Qv wa.heap.size wr g2 v4 l came lost := hq14
    replace hq15 : ∃ v4 g2, x15 = .pointer (some ⟨g2, 0, none⟩) ∧ Qv wa.heap.size wr g2 v4 l came lost := hq15
    simp only [Reg.putL, Act.put, List.setIfInBounds_toArray, List.set_cons_succ, List.set_cons_zero]
    obtain ⟨v4, g2, rfl, h2⟩ := hq15
    have H2 := Aside0.mk h2
    have HB := Aside0.mk hG
    clear h2 hG hq14 hq13 hq4
    go_wp2_with (fail)
    go_ret
    exact ⟨v4, g2, rfl, H2.out, HB.out⟩
end Go.Proofs.YtmifpookhhkgeaaDoor.Q
