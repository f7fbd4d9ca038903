/- Key of pairs whose texts have one letter each. -/
import Derived.Test.YtjgommaikaeobaaDoorLE
import Derived.Test.YtjgommaikaeobaaDoorReg
set_option linter.unusedVariables false
set_option linter.unusedSimpArgs false
namespace Go.Proofs.YtjgommaikaeobaaDoor.L
open Go.RowKit Go.Shelf Go.Lib Go.Proofs.YtjgommaikaeobaaDoorW.PrintWords Go.Proofs.YtjgommaikaeobaaDoor.PLabelSorts Go.Proofs.YtjgommaikaeobaaDoor.R

theorem info50 : (Tryd.prog.info? 50).map (fun i => (i.zero, i.size, i.bytes)) = some (some (.slice none 0 0), 1, 24) := by kernel_rfl
def keyParts (l : List S35) : List (List Int) := l.flatMap fun x => [text1 x.f0, text1 x.f1]
theorem keyParts_len (l : List S35) : (keyParts l).length = l.length * 2 := by
  induction l with
  | nil => rfl
  | cons x l ih => simp only [keyParts, List.flatMap_cons, List.length_append, List.length_cons, List.length_nil] at *; omega
theorem keyParts_snoc (l : List S35) (x : S35) : keyParts (l ++ [x]) = keyParts l ++ [text1 x.f0, text1 x.f1] := by simp [keyParts]
theorem two_row {w : World} {blk : Nat} {a b : Value} {x y : List Int} {wd : World} (hb : w.heap[blk]? = some (.cells #[a, b] 50 (0, 0))) (ha : Kd.R (Kd.int .u8) 5 w wd.heap.size (fun _ => True) a x) (hb2 : Kd.R (Kd.int .u8) 5 w wd.heap.size (fun _ => True) b y) :
    ReadsRow (fun x cs => ∃ u, cs = [u] ∧ Kd.R (Kd.int .u8) 5 w wd.heap.size (fun _ => True) u x) 1 w (some ⟨blk, 0, none⟩) 2 [x, y] :=
  ⟨rfl, by omega, fun _ => ⟨⟨blk, 0, none⟩, rfl, fun j p hj => by
    rcases j with _ | _ | j
    · obtain rfl : x = p := by simpa using hj
      refine ⟨[a], rfl, ⟨a, rfl, ha⟩, fun i u hu => ?_⟩
      rcases i with _ | i
      · obtain rfl : a = u := by simpa using hu
        exact (blk_cell hb 0).trans rfl
      · simp at hu
    · obtain rfl : y = p := by simpa using hj
      refine ⟨[b], rfl, ⟨b, rfl, hb2⟩, fun i u hu => ?_⟩
      rcases i with _ | i
      · obtain rfl : b = u := by simpa using hu
        exact (blk_cell hb 1).trans rfl
      · simp at hu
    · simp at hj⟩⟩
def sumL (ps : List (List Int)) : Nat := (ps.map (·.length)).sum
theorem sumL_cons (p : List Int) (t : List (List Int)) : sumL (p :: t) = p.length + sumL t := by simp [sumL]
theorem list_l0 (ps : List (List Int)) (hn : ps.length ≤ 1000000000) (d : Nat) : ∀ (k j : Nat) (acc : List Int), j + d = ps.length → d < k → acc.length + sumL (ps.drop j) < 140737488355328 → BList.l0 k acc ps (ps.length : Int) (j : Int) = some (acc ++ (ps.drop j).flatten ++ [101]) := by
  induction d with
  | zero =>
    intro k j acc h hk hs
    obtain ⟨k, rfl⟩ : ∃ m, k = m + 1 := ⟨k - 1, by omega⟩
    simp only [BList.l0]
    rw [if_neg (by omega), List.drop_eq_nil_of_le (by omega)]
    rw [if_pos (by omega)]
    simp
  | succ d ih =>
    intro k j acc h hk hs
    obtain ⟨k, rfl⟩ : ∃ m, k = m + 1 := ⟨k - 1, by omega⟩
    simp only [BList.l0]
    have hj : j < ps.length := by omega
    have hg : rd_L3 ps (j : Int) = ps[j] := by simp [rd_L3, hj]
    rw [List.drop_eq_getElem_cons hj] at hs
    have hs' : acc.length + (ps[j].length + sumL (ps.drop (j + 1))) < 140737488355328 := by
      rw [sumL_cons] at hs
      exact hs
    rw [if_pos (by omega), if_pos (by omega), if_pos (by omega), hg, if_pos (by omega), wrap1 (n := ps.length) (by omega) (by omega) (by omega), cast1, ih k (j + 1) (acc ++ ps[j]) (by omega) (by omega) (by rw [List.length_append]; omega), List.drop_eq_getElem_cons hj]
    generalize ps.drop (j + 1) = t
    generalize ps[j] = p
    simp
theorem list_any (A : Option Addr) (c : Nat) (ps : List (List Int)) (w : World) (h : Kd.C (Kd.slice 5 (Kd.int .u8)) w A ps.length ps) (hcap : ps.length ≤ c) (hn : ps.length ≤ 1000000000) (hs : sumL ps < 140737488355327) :
    Calls Tryd.prog 33 #[.slice A ps.length c] w fun e w' => ∃ v, e = .returned v ∧ Kd.R (Kd.int .u8) 5 w' w.heap.size (fun _ => True) v (108 :: ps.flatten ++ [101]) ∧ Below w.heap.size w w' :=
  BList.calls (ps.length + 1) A c ps _ w h hcap (by
    have := list_l0 ps hn ps.length (ps.length + 1) 0 [108] (by omega) (by omega) (by simp; omega)
    simpa [BList.f] using this)
/-- string(b) of a row of bytes of the call's own. -/
theorem conv_row {w : World} {base : Nat} {v : Value} {xs : List Int} (h : Kd.R (Kd.int .u8) 5 w base (fun _ => True) v xs) (hx : 0 < xs.length) : (convert 50 9 v).run Tryd.prog w = .ok (.string (strOfNums xs)) w := by
  have ho := Kd.own_of_R h
  obtain ⟨hlen, h2⟩ := ho
  rcases h2 with ⟨_, h0⟩ | ⟨g, cap, cur, rfl, hg, hb, h1, h2, h3, h4⟩
  · omega
  · refine run_convert_bytes_arg w 50 5 Tryd.underlying50 Tryd.underlying5 g 0 xs.length cap xs rfl (fun i hi => ?_) 9 Tryd.underlying9
    have := (Kd.R_cell (0 : Int) h (i : Int) (by omega) (by omega)).1
    rw [Nat.zero_add]
    have e : rdOf (0 : Int) xs (i : Int) = xs.getD i 0 := by simp [rdOf]
    rw [← e]
    exact this

set_option maxRecDepth 100000 in
set_option maxHeartbeats 4000000 in
theorem key_any (A : Option Addr) (c : Nat) (l : List S35) (W0 : World) (h : Kd.C k35 W0 A l.length l) (hl : l.length ≤ 1000) (h1 : ∀ x ∈ l, x.f0.size = 1 ∧ x.f1.size = 1) (hs : sumL (keyParts l) < 140737488355327) :
    Calls Tryd.prog 22 #[.slice A l.length c] W0 fun e w' => e = .returned (.string (strOfNums (108 :: (keyParts l).flatten ++ [101]))) ∧ Below W0.heap.size W0 w' := by
  have H := Aside0.mk h
  have H1 := Aside0.mk h1
  have HS := Aside0.mk hs
  clear h h1 hs
  have hkl := keyParts_len l
  obtain ⟨ps, hps⟩ : ∃ ps, ps = keyParts l := ⟨_, rfl⟩
  rw [← hps] at HS hkl ⊢
  have HPS := Aside0.mk hps
  have hps3 : ps.length ≤ 1000000000 := by omega
  clear hps hkl
  go_enter Tryd.func22, Tryd.ntmps22
  go_wp2_with (fail)
  go_loopg [3, 8] (l.length + 1) (fun kq v3 v8 wr => ∃ x : Int, v8 = .int .i64 x ∧ Aside0 (0 ≤ x ∧ x ≤ l.length ∧ x + kq = l.length + 1) ∧ Aside0 (Kd.R (Kd.slice 5 (Kd.int .u8)) 50 wr W0.heap.size (fun _ => True) v3 (keyParts (l.take x.toNat))) ∧ Aside0 (Below W0.heap.size W0 wr))
  case atStart => exact ⟨0, rfl, ⟨by omega⟩, ⟨Kd.R_nil _ _ _ _ _⟩, ⟨Below.refl _ _⟩⟩
  case round =>
    obtain ⟨x, rfl, HI, HR, HB⟩ := hrel
    cases gk with
    | zero => exact absurd HI.out (by omega)
    | succ k1 =>
      obtain ⟨hx0, hxn, hxk⟩ := HI.out
      by_cases hlt : x < (l.length : Int)
      · obtain ⟨ad, rfl, f0, f1⟩ := at_T35 H.out x hx0 hlt
        have hj : x.toNat < l.length := by omega
        have hye : rd_T35 l x = l[x.toNat] := by simp [rd_T35, hj]
        have hy := H1.out _ (List.getElem_mem hj)
        have HSN := Aside0.mk (keyParts_snoc (l.take x.toNat) l[x.toNat])
        rw [← List.take_succ_eq_append_getElem hj, ← hye] at HSN
        rw [← hye] at hy
        obtain ⟨y, hyd⟩ : ∃ y, y = rd_T35 l x := ⟨_, rfl⟩
        rw [← hyd] at f0 f1 hy HSN
        have f0 := (HB.out.cell (World.block_lt_of_cell? W0 _ f0)).trans f0
        have f1 := (HB.out.cell (World.block_lt_of_cell? W0 _ f1)).trans f1
        have hpl : (keyParts (l.take x.toNat)).length ≤ 2000 := by rw [keyParts_len, List.length_take]; omega
        obtain ⟨parts, hparts⟩ : ∃ parts, parts = keyParts (l.take x.toNat) := ⟨_, rfl⟩
        rw [← hparts] at HR HSN hpl
        clear hyd hye hj hparts
        obtain ⟨w3, hw3⟩ : ∃ w3, w3 = wr.alloc (Obj.cells #[.string y.f0, .string y.f1] 35 (0, 0)) := ⟨_, rfl⟩
        obtain ⟨wd, hwd⟩ : ∃ wd, wd = w3.drew := ⟨_, rfl⟩
        have HW3 := Aside0.mk hw3
        have HWD := Aside0.mk hwd
        have hBr : Below wr.heap.size wr wd := by rw [hwd, hw3]; exact (below_alloc (Below.refl _ _) _).drew
        have hbk : wd.heap[wr.heap.size]? = some (Obj.cells #[.string y.f0, .string y.f1] 35 (0, 0)) := by rw [hwd, hw3]; exact blk_new wr _
        obtain ⟨bp, hbp⟩ : ∃ bp, bp = wr.heap.size := ⟨_, rfl⟩
        rw [← hbp] at hbk
        have HBP := Aside0.mk hbp
        clear hbp hw3 hwd
        have HBK := Aside0.mk hbk
        have HBR := Aside0.mk hBr
        clear hbk hBr
        go_wp2_with (fail)
        rw [← HW3.out, ← HBP.out]
        have hbk := HBK.out
        have cp0 : wd.cell? ⟨bp, 0, none⟩ = some (.string y.f0) := (blk_cell hbk 0).trans rfl
        have cp1 : wd.cell? ⟨bp, 1, none⟩ = some (.string y.f1) := (blk_cell hbk 1).trans rfl
        have HO := Kd.R_below HR.out HBR.out
        have HBd := below_then HB.out HB.out.size HBR.out
        obtain ⟨inner, how⟩ := Kd.R_own HO
        have hlow : ∀ k, _ → k < wd.heap.size := fun k => own_lt how k
        clear HBR HBK HB HR hbk how f0 f1
        obtain ⟨v3, hv3⟩ : ∃ v3, v3 = u3 := ⟨_, rfl⟩
        rw [← hv3] at HO hlow ⊢
        clear hv3
        refine Reg.region_pivot2 (Γ := (Value)) hmix [some 12, some 13, some 14, some 15, some 16, some 17, some 18, some 19, some 20, some 3] [[], [], [1], [2], [], [4], [5, 3], [3, 6], [0, 7, 6], [8, 8, 0, 1, 2, 3, 4, 5, 6, 7, 8]] 8 8 [0, 1, 2, 3, 4, 5, 6, 7] (fun w => Below wd.heap.size wd w) (fun γ d w => Kd.R (Kd.slice 5 (Kd.int .u8)) 50 w W0.heap.size (fun _ => True) γ (parts ++ [text1 y.f0, text1 y.f1]) ∧ Below W0.heap.size W0 w) (fun w w' => Below w.heap.size w w') [(fun v w => v = (v3 : Value)), (fun v w => v = (.pointer (some ⟨bp, 0, none⟩) : Value)), (fun v w => v = (.string y.f0 : Value)), (fun v w => Kd.R (Kd.int .u8) 5 w wd.heap.size (fun _ => True) v (text1 y.f0)), (fun v w => v = (.pointer (some ⟨bp, 1, none⟩) : Value)), (fun v w => v = (.string y.f1 : Value)), (fun v w => Kd.R (Kd.int .u8) 5 w wd.heap.size (fun _ => True) v (text1 y.f1)), (fun v w => ∃ blk a b, v = .slice (some ⟨blk, 0, none⟩) 2 2 ∧ w.heap[blk]? = some (.cells #[a, b] 50 (0, 0)) ∧ Kd.R (Kd.int .u8) 5 w wd.heap.size (fun _ => True) a (text1 y.f0) ∧ Kd.R (Kd.int .u8) 5 w wd.heap.size (fun _ => True) b (text1 y.f1)), (fun _ _ => False), (fun _ _ => False)] (fun γ => [(fun v => True), (fun v => True), (fun v => True), (fun v => True), (fun v => True), (fun v => True), (fun v => True), (fun v => True), (fun v => v = γ), (fun v => v = γ)]) rfl (by kernel_rfl) (by kernel_rfl) (fun _ _ hr => Reg.mono_cons (fun _ h => h) (Reg.mono_cons (fun _ h => h) (Reg.mono_cons (fun _ h => h) (Reg.mono_cons (fun _ h => Kd.R_below h hr) (Reg.mono_cons (fun _ h => h) (Reg.mono_cons (fun _ h => h) (Reg.mono_cons (fun _ h => Kd.R_below h hr) (Reg.mono_cons (fun v ⟨blk, a, b, e, h1, h2, h3⟩ => ⟨blk, a, b, e, blk_below h1 hr, Kd.R_below h2 hr, Kd.R_below h3 hr⟩) (Reg.mono_cons (fun _ h => h) (Reg.mono_cons (fun _ h => h) (Reg.mono_nil))))))))))) (by rw [← HWD.out]; exact Below.refl _ _) ?hs ?he
        case hs =>
          intro xs0 xs hx0 hl1_ hl0_
          obtain ⟨y0, ys1, rfl, kl1⟩ := Reg.len_succ hl1_
          obtain ⟨y1, ys2, rfl, kl2⟩ := Reg.len_succ kl1
          obtain ⟨y2, ys3, rfl, kl3⟩ := Reg.len_succ kl2
          obtain ⟨y3, ys4, rfl, kl4⟩ := Reg.len_succ kl3
          obtain ⟨y4, ys5, rfl, kl5⟩ := Reg.len_succ kl4
          obtain ⟨y5, ys6, rfl, kl6⟩ := Reg.len_succ kl5
          obtain ⟨y6, ys7, rfl, kl7⟩ := Reg.len_succ kl6
          obtain ⟨y7, ys8, rfl, kl8⟩ := Reg.len_succ kl7
          obtain ⟨y8, ys9, rfl, kl9⟩ := Reg.len_succ kl8
          obtain ⟨y9, ys10, rfl, kl10⟩ := Reg.len_succ kl9
          obtain rfl := List.eq_nil_of_length_eq_zero kl10
          clear hl1_ kl1 kl2 kl3 kl4 kl5 kl6 kl7 kl8 kl9 kl10
          simp only [Reg.putL, Act.put, List.setIfInBounds_toArray, List.set_cons_succ, List.set_cons_zero, Act.mk.injEq, and_true] at hx0
          replace hx0 := congrArg Array.toList hx0
          simp only [List.cons.injEq, and_true, true_and] at hx0
          obtain ⟨hy9, -⟩ := hx0
          obtain ⟨x0, xs1, rfl, hl1⟩ := Reg.len_succ hl0_
          obtain ⟨x1, xs2, rfl, hl2⟩ := Reg.len_succ hl1
          obtain ⟨x2, xs3, rfl, hl3⟩ := Reg.len_succ hl2
          obtain ⟨x3, xs4, rfl, hl4⟩ := Reg.len_succ hl3
          obtain ⟨x4, xs5, rfl, hl5⟩ := Reg.len_succ hl4
          obtain ⟨x5, xs6, rfl, hl6⟩ := Reg.len_succ hl5
          obtain ⟨x6, xs7, rfl, hl7⟩ := Reg.len_succ hl6
          obtain ⟨x7, xs8, rfl, hl8⟩ := Reg.len_succ hl7
          obtain ⟨x8, xs9, rfl, hl9⟩ := Reg.len_succ hl8
          obtain ⟨x9, xs10, rfl, hl10⟩ := Reg.len_succ hl9
          obtain rfl := List.eq_nil_of_length_eq_zero hl10
          clear hl0_ hl1 hl2 hl3 hl4 hl5 hl6 hl7 hl8 hl9 hl10
          simp only [Reg.putL, Act.put, List.setIfInBounds_toArray, List.set_cons_succ, List.set_cons_zero]
          refine ⟨fun wr hG hf _ hlate_ => ?_, ?_⟩
          · skip
            obtain rfl : x9 = v3 := (hlate_ 9 (by simp) (by decide) (by decide)).trans hy9
            clear hlate_
            replace hG : Below wd.heap.size wd wr := hG
            clear hf
            refine .inl ⟨by rfl, ?_⟩
            simp only [Reg.ung]
            have cb0 := (hG.cell (World.block_lt_of_cell? wd _ cp0)).trans cp0; have cb1 := (hG.cell (World.block_lt_of_cell? wd _ cp1)).trans cp1
            go_wp2
            exact ⟨_, rfl, hG, (fun w => Below.refl w.heap.size w) _, rfl⟩
          refine ⟨fun wr hG hf _ hlate_ => ?_, ?_⟩
          · skip
            clear hlate_
            replace hG : Below wd.heap.size wd wr := hG
            clear hf
            refine .inl ⟨by rfl, ?_⟩
            simp only [Reg.ung]
            have cb0 := (hG.cell (World.block_lt_of_cell? wd _ cp0)).trans cp0; have cb1 := (hG.cell (World.block_lt_of_cell? wd _ cp1)).trans cp1
            go_wp2
            exact ⟨_, rfl, hG, (fun w => Below.refl w.heap.size w) _, rfl⟩
          refine ⟨fun wr hG hf _ hlate_ => ?_, ?_⟩
          · skip
            clear hlate_
            replace hG : Below wd.heap.size wd wr := hG
            obtain ⟨hq0, -⟩ := hf
            obtain rfl : x1 = (.pointer (some ⟨bp, 0, none⟩) : Value) := hq0
            refine .inl ⟨by rfl, ?_⟩
            simp only [Reg.ung]
            have cb0 := (hG.cell (World.block_lt_of_cell? wd _ cp0)).trans cp0; have cb1 := (hG.cell (World.block_lt_of_cell? wd _ cp1)).trans cp1
            go_wp2
            exact ⟨_, rfl, hG, (fun w => Below.refl w.heap.size w) _, rfl⟩
          refine ⟨fun wr hG hf _ hlate_ => ?_, ?_⟩
          · skip
            clear hlate_
            replace hG : Below wd.heap.size wd wr := hG
            obtain ⟨hq0, -⟩ := hf
            obtain rfl : x2 = (.string y.f0 : Value) := hq0
            refine .inl ⟨by rfl, ?_⟩
            simp only [Reg.ung]
            have cb0 := (hG.cell (World.block_lt_of_cell? wd _ cp0)).trans cp0; have cb1 := (hG.cell (World.block_lt_of_cell? wd _ cp1)).trans cp1
            go_wp2_with ((go_at_call 32; refine (text_any y.f0 hy.1 _).mono ?_; rintro e w5 ⟨u, rfl, hR, hb⟩)); exact ⟨_, rfl, below_then hG hG.size hb, hb, Kd.R_lower hR hG.size⟩
          refine ⟨fun wr hG hf _ hlate_ => ?_, ?_⟩
          · skip
            clear hlate_
            replace hG : Below wd.heap.size wd wr := hG
            clear hf
            refine .inl ⟨by rfl, ?_⟩
            simp only [Reg.ung]
            have cb0 := (hG.cell (World.block_lt_of_cell? wd _ cp0)).trans cp0; have cb1 := (hG.cell (World.block_lt_of_cell? wd _ cp1)).trans cp1
            go_wp2
            exact ⟨_, rfl, hG, (fun w => Below.refl w.heap.size w) _, rfl⟩
          refine ⟨fun wr hG hf _ hlate_ => ?_, ?_⟩
          · skip
            clear hlate_
            replace hG : Below wd.heap.size wd wr := hG
            obtain ⟨hq0, -⟩ := hf
            obtain rfl : x4 = (.pointer (some ⟨bp, 1, none⟩) : Value) := hq0
            refine .inl ⟨by rfl, ?_⟩
            simp only [Reg.ung]
            have cb0 := (hG.cell (World.block_lt_of_cell? wd _ cp0)).trans cp0; have cb1 := (hG.cell (World.block_lt_of_cell? wd _ cp1)).trans cp1
            go_wp2
            exact ⟨_, rfl, hG, (fun w => Below.refl w.heap.size w) _, rfl⟩
          refine ⟨fun wr hG hf _ hlate_ => ?_, ?_⟩
          · skip
            clear hlate_
            replace hG : Below wd.heap.size wd wr := hG
            obtain ⟨hq0, -, -⟩ := hf
            obtain rfl : x5 = (.string y.f1 : Value) := hq0
            refine .inl ⟨by rfl, ?_⟩
            simp only [Reg.ung]
            have cb0 := (hG.cell (World.block_lt_of_cell? wd _ cp0)).trans cp0; have cb1 := (hG.cell (World.block_lt_of_cell? wd _ cp1)).trans cp1
            go_wp2_with ((go_at_call 32; refine (text_any y.f1 hy.2 _).mono ?_; rintro e w5 ⟨u, rfl, hR, hb⟩)); exact ⟨_, rfl, below_then hG hG.size hb, hb, Kd.R_lower hR hG.size⟩
          refine ⟨fun wr hG hf _ hlate_ => ?_, ?_⟩
          · skip
            clear hlate_
            replace hG : Below wd.heap.size wd wr := hG
            obtain ⟨hq0, hq1, -⟩ := hf
            replace hq0 : Kd.R (Kd.int .u8) 5 wr wd.heap.size (fun _ => True) x3 (text1 y.f0) := hq0
            replace hq1 : Kd.R (Kd.int .u8) 5 wr wd.heap.size (fun _ => True) x6 (text1 y.f1) := hq1
            refine .inl ⟨by rfl, ?_⟩
            simp only [Reg.ung]
            have cb0 := (hG.cell (World.block_lt_of_cell? wd _ cp0)).trans cp0; have cb1 := (hG.cell (World.block_lt_of_cell? wd _ cp1)).trans cp1
            obtain ⟨_, _, rfl⟩ := Kd.R_slice hq0; obtain ⟨_, _, rfl⟩ := Kd.R_slice hq1; go_wp2; exact ⟨_, rfl, hG.alloc hG.size _, below_alloc (Below.refl _ _) _, _, _, _, rfl, blk_new wr _, Kd.R_below hq0 (below_alloc (Below.refl _ _) _), Kd.R_below hq1 (below_alloc (Below.refl _ _) _)⟩
          refine ⟨fun wr hG hf _ hlate_ => ?_, ?_⟩
          · skip
            clear hlate_
            replace hG : Below wd.heap.size wd wr := hG
            obtain ⟨hq0, hq1, -, -⟩ := hf
            obtain rfl : x0 = (v3 : Value) := hq0
            replace hq1 : ∃ blk a b, x7 = .slice (some ⟨blk, 0, none⟩) 2 2 ∧ wr.heap[blk]? = some (.cells #[a, b] 50 (0, 0)) ∧ Kd.R (Kd.int .u8) 5 wr wd.heap.size (fun _ => True) a (text1 y.f0) ∧ Kd.R (Kd.int .u8) 5 wr wd.heap.size (fun _ => True) b (text1 y.f1) := hq1
            refine .inl ⟨by rfl, ?_⟩
            simp only [Reg.ung]
            have cb0 := (hG.cell (World.block_lt_of_cell? wd _ cp0)).trans cp0; have cb1 := (hG.cell (World.block_lt_of_cell? wd _ cp1)).trans cp1
            obtain ⟨blk, a, b, rfl, hbk, ha, hb⟩ := hq1; go_wp2_with (((with_reducible refine gate_builtin (b := .append) (xs := #[.tmp 12, .tmp 19]) rfl ?_); at_builtin; refine Kd.R_append_rows (Kd.slice 5 (Kd.int .u8)) (Rr := fun x cs => ∃ u, cs = [u] ∧ Kd.R (Kd.int .u8) 5 wr wd.heap.size (fun _ => True) u x) (w0 := W0) W0.heap.size rfl (.tmp 12) (.tmp 19) 49 50 (.slice none 0 0) 24 rfl Tryd.underlying49 info50 rfl (by decide) (by omega) x0 parts [text1 y.f0, text1 y.f1] _ 2 2 (fun _ => True) (fun k => wd.heap.size ≤ k) rfl rfl (Kd.R_below HO hG) (two_row hbk ha hb) (fun x cs h => by obtain ⟨u, e, h⟩ := h; exact ⟨u, e, Kd.R_lower (Kd.R_mono (Kd.R_bound h) (fun k hk => hk.2.1)) HBd.size⟩) (fun k hk => ⟨trivial, fun e => by have := hlow k e.symm; omega⟩) (fun _ _ => trivial) (below_then HBd HBd.size hG) (Nat.le_trans HBd.size hG.size) (by omega) ?_; intro v1 w1 hR hB hg hat)); exact ⟨_, rfl, v1, ⟨hR, hB⟩, rfl, trivial, trivial, trivial, trivial, trivial, trivial, trivial, trivial, trivial⟩
          refine ⟨fun γ d wr hG hf _ => ?_, ?_⟩
          · skip
            obtain ⟨v1, rfl⟩ : ∃ z, z = γ := ⟨_, rfl⟩
            replace hG : Kd.R (Kd.slice 5 (Kd.int .u8)) 50 wr W0.heap.size (fun _ => True) v1 (parts ++ [text1 y.f0, text1 y.f1]) ∧ Below W0.heap.size W0 wr := hG
            obtain ⟨hq0, -, -, -, -, -, -, -, -, -, -, -⟩ := hf
            replace hq0 : x8 = v1 := hq0
            refine .inl ⟨by rfl, ?_⟩
            simp only [Reg.ung]
            go_wp2; exact ⟨_, rfl, by simpa using hG, hq0⟩
          exact trivial
        case he =>
          intro xs hl0_ γ wr hG hf
          obtain ⟨x0, xs1, rfl, hl1⟩ := Reg.len_succ hl0_
          obtain ⟨x1, xs2, rfl, hl2⟩ := Reg.len_succ hl1
          obtain ⟨x2, xs3, rfl, hl3⟩ := Reg.len_succ hl2
          obtain ⟨x3, xs4, rfl, hl4⟩ := Reg.len_succ hl3
          obtain ⟨x4, xs5, rfl, hl5⟩ := Reg.len_succ hl4
          obtain ⟨x5, xs6, rfl, hl6⟩ := Reg.len_succ hl5
          obtain ⟨x6, xs7, rfl, hl7⟩ := Reg.len_succ hl6
          obtain ⟨x7, xs8, rfl, hl8⟩ := Reg.len_succ hl7
          obtain ⟨x8, xs9, rfl, hl9⟩ := Reg.len_succ hl8
          obtain ⟨x9, xs10, rfl, hl10⟩ := Reg.len_succ hl9
          obtain rfl := List.eq_nil_of_length_eq_zero hl10
          clear hl0_ hl1 hl2 hl3 hl4 hl5 hl6 hl7 hl8 hl9 hl10
          obtain ⟨v1, rfl⟩ : ∃ z, z = γ := ⟨_, rfl⟩
          replace hG : Kd.R (Kd.slice 5 (Kd.int .u8)) 50 wr W0.heap.size (fun _ => True) v1 (parts ++ [text1 y.f0, text1 y.f1]) ∧ Below W0.heap.size W0 wr := hG
          obtain ⟨hq0, hq1, hq2, hq3, hq4, hq5, hq6, hq7, hq8, hq9, -⟩ := hf
          replace hq0 : True := hq0
          replace hq1 : True := hq1
          replace hq2 : True := hq2
          replace hq3 : True := hq3
          replace hq4 : True := hq4
          replace hq5 : True := hq5
          replace hq6 : True := hq6
          replace hq7 : True := hq7
          replace hq8 : x8 = v1 := hq8
          replace hq9 : x9 = v1 := hq9
          simp only [Reg.putL, Act.put, List.setIfInBounds_toArray, List.set_cons_succ, List.set_cons_zero]
          obtain ⟨hR1, hB1⟩ := hG; subst hq9
          have HR1 := Aside0.mk hR1
          have HB1 := Aside0.mk hB1
          clear hR1 hB1 HO HBd hlow cp0 cp1
          go_wp2_with (fail)
          go_roundg k1
          case measure => omega
          case rel => exact ⟨x + 1, rfl, ⟨by omega⟩, by rw [show (x + 1).toNat = x.toNat + 1 by omega, HSN.out]; exact HR1, HB1⟩
      · have hcb : decide (x < (l.length : Int)) = false := decide_eq_false hlt
        have hall : l.take x.toNat = l := List.take_of_length_le (by omega)
        rw [hall, ← HPS.out] at HR
        clear HI hx0 hxn hxk hlt hall
        obtain ⟨A', c', hv, hc', hC'⟩ := Kd.R_reads HR.out
        subst hv
        have HC' := Aside0.mk hC'
        clear hC'
        go_wp2_with (fail)
        refine (list_any A' c' ps wr HC'.out hc' hps3 HS.out).mono ?_
        rintro e w5 ⟨v, rfl, hr, hb⟩
        have HB5 := Aside0.mk (below_then HB.out HB.out.size hb)
        have hcv := conv_row hr (by simp)
        clear hr hb
        go_wp2_with (fail)
        go_ret
        exact ⟨rfl, HB5.out⟩
end Go.Proofs.YtjgommaikaeobaaDoor.L
