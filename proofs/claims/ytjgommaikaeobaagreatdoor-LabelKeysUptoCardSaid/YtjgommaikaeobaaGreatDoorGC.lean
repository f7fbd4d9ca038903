/- label.Read: what it answers, as a plain Lean function, with its contract. -/
import Derived.Test.YtjgommaikaeobaaGreatDoorRF
import Derived.Test.YtjgommaikaeobaaGreatDoorGB
import Derived.Test.YtjgommaikaeobaaGreatDoorLC
set_option linter.unusedVariables false
set_option linter.unusedSimpArgs false
namespace Go.Proofs.YtjgommaikaeobaaGreatDoor.G
open Go.RowKit Go.Shelf Go.Lib Go.Proofs.YtjgommaikaeobaaGreatDoorW.PrintWords Go.Proofs.YtjgommaikaeobaaGreatDoor.P Go.Proofs.YtjgommaikaeobaaGreatDoor.L Go.Proofs.YtjgommaikaeobaaGreatDoor.RD

/-- The pairs that are read, so many at most. -/
def readLoop : Nat → List Int → Int → List S37 → List Int × Int × List S37
  | 0, bs, e, l => (bs, e, l)
  | k + 1, bs, e, l => if moreF bs then
      readLoop k (textF (textF bs e 16).2.1 (textF bs e 16).2.2 64).2.1 (textF (textF bs e 16).2.1 (textF bs e 16).2.2 64).2.2 (l ++ [⟨(textF bs e 16).1, (textF (textF bs e 16).2.1 (textF bs e 16).2.2 64).1⟩])
    else (bs, e, l)
/-- What stands behind the loop. -/
def readEnd (x : List Int × Int × List S37) : List S37 × Int :=
  if (skipF 101 x.1 x.2.1).2 = 0 ∧ (skipF 101 x.1 x.2.1).1.length = 0 ∧ checkE x.2.2 = 0 then (x.2.2, 0) else ([], 4)
def readB (bs : List Int) : List S37 × Int := readEnd (readLoop 9 (skipF 108 bs 0).1 (skipF 108 bs 0).2 [])
def LRead.f (a0 : ByteArray) : Option ((List (S37)) × Int) := if a0.size ≤ 140737488351232 then some (readB (bytesOf a0)) else none
theorem info35R : (Tryz.prog.info? 37).map (fun i => (i.zero, i.size, i.bytes)) = some (some (.agg #[.string ⟨#[]⟩, .string ⟨#[]⟩]), k37.sz, 32) := by kernel_rfl
set_option maxHeartbeats 4000000 in
set_option maxRecDepth 100000 in
theorem read_any (key : ByteArray) (w : World) (hT : TabE w) (hn : key.size ≤ 140737488351232) :
    Calls Tryz.prog 4 #[.string key] w fun e w' => ∃ v : Value, e = .returned (.tuple #[v, .int .i64 (readB (bytesOf key)).2]) ∧ Kd.R k37 37 w' w.heap.size (fun _ => True) v (readB (bytesOf key)).1 ∧ Below w.heap.size w w' := by
  have kb := fun W => print_bytes (P := Tryz.prog) 9 34 5 Tryz.underlying9 Tryz.underlying34 Tryz.underlying5 key W
  have HT := Aside0.mk hT
  have HKN := Aside0.mk hn
  have HBW := Aside0.mk (Lib.bytesWorld_below w 5 key)
  have hsz : (Lib.bytesWorld w 5 key).heap.size = w.heap.size + 1 := Lib.bytesWorld_size w 5 key
  have HSZ := Aside0.mk hsz
  have hlen := bytesOf_length key
  have hnew := new_any (some ⟨w.heap.size, 0, none⟩) (grownCap w key.size 0 5) (bytesOf key) (Lib.bytesWorld w 5 key)
    (by rw [hlen]; exact Kd.C_of_reads (enc := Value.int .u8) (d := (0 : Int)) (h1 := fun _ => rfl) (bytes_reads w 5 key (by omega))) (by rw [hlen]; exact grownCap_ge _ _ _ _) (fun ad had => by cases had; show w.heap.size < _; omega) (bytesOf_bound key) (fun ad had _ => by cases had; exact ⟨_, _, _, Lib.bytesWorld_at_new w 5 key, by simp⟩)
  rw [hlen] at hnew
  have HNEW := Aside0.mk hnew
  have HL := Aside0.mk hlen
  clear hT hn hsz hnew hlen
  go_enter Tryz.func4, Tryz.ntmps4
  go_wp2_with (fail)
  refine HNEW.out.mono ?_
  rintro e w1 ⟨rfl, hr1, hb1⟩
  obtain ⟨g, hg⟩ : ∃ g, g = (Lib.bytesWorld w 5 key).heap.size := ⟨_, rfl⟩
  have HG := Aside0.mk (show w.heap.size ≤ g by rw [hg, HSZ.out]; omega)
  have HB1 := Aside0.mk (below_then HBW.out HBW.out.size hb1)
  rw [← hg] at hr1 ⊢
  have HR1 := Aside0.mk hr1
  clear hr1 hb1 hg HNEW HSZ kb
  go_wp2_with (fail)
  refine (open_any g _ _ _ HR1.out).mono ?_
  rintro e w2 ⟨rfl, hr2, hf2⟩
  obtain ⟨B0, hB0⟩ : ∃ B0, B0 = (skipF 108 (bytesOf key) 0).1 := ⟨_, rfl⟩
  obtain ⟨E0, hE0⟩ : ∃ E0, E0 = (skipF 108 (bytesOf key) 0).2 := ⟨_, rfl⟩
  rw [← hB0, ← hE0] at hr2
  have HRB := Aside0.mk (show readB (bytesOf key) = readEnd (readLoop 9 B0 E0 []) by rw [hB0, hE0]; rfl)
  have HBL := Aside0.mk (show B0.length ≤ 140737488351232 by rw [hB0]; have := skipF_len 108 (bytesOf key) 0; rw [HL.out] at this; have := HKN.out; omega)
  have HR2 := Aside0.mk hr2
  have HB2 := Aside0.mk (hf2.below HB1.out HG.out)
  have HT2 := Aside0.mk (HT.out.below HB2.out)
  clear hr2 hf2 HR1 HB1 hB0 hE0
  go_wp2_with (fail)
  go_loopg [5] 9 (fun kq v5 wr => ∃ (l : List S37) (bs : List Int) (en : Int), Aside0 (l.length + kq = 9) ∧ Aside0 (bs.length ≤ 140737488351232) ∧ Aside0 (readB (bytesOf key) = readEnd (readLoop kq bs en l)) ∧ Aside0 (RdAt wr g bs en) ∧ Aside0 (Below w.heap.size w wr) ∧ Aside0 (Kd.R k37 37 wr w.heap.size (fun k => k ≠ g) v5 l))
  case atStart => exact ⟨[], B0, E0, ⟨rfl⟩, HBL, HRB, HR2, HB2, ⟨Kd.R_nil _ _ _ _ _⟩⟩
  case round =>
    clear HBL HRB HR2 HB2 HT2
    obtain ⟨l, bs, en, HK, HBL, HRB, HR, HB, HO⟩ := hrel
    obtain ⟨A, c, hv, hc, hC⟩ := Kd.R_reads HO.out
    obtain ⟨nl, hnl⟩ : ∃ nl, nl = l.length := ⟨_, rfl⟩
    have HNL := Aside0.mk hnl
    rw [← hnl] at hv
    subst hv
    have HC := Aside0.mk hC
    have HCC := Aside0.mk hc
    have HTW := Aside0.mk (HT.out.below HB.out)
    clear hnl hc hC
    go_wp2_with (fail)
    refine (more_any g bs en _ HR.out).mono ?_
    rintro e w3 ⟨rfl, rfl⟩
    cases hmo : moreF bs with
    | true =>
      have HMO := Aside0.mk hmo
      clear hmo
      cases gk with
      | zero =>
        have h9 : nl = 9 := by have h1 := HK.out; have h2 := HNL.out; omega
        subst h9
        have HRE := Aside0.mk (show readB (bytesOf key) = readEnd (bs, en, l) from HRB.out)
        go_wp2_with (fail)
        refine (close_any g bs en _ HR.out).mono ?_
        rintro e w4 ⟨rfl, hr4, hf4⟩
        have HB4 := Aside0.mk (hf4.below HB.out HG.out)
        have HO4 := Aside0.mk (R_fr HO.out hf4)
        obtain ⟨cb, hcb⟩ : ∃ cb, cb = (skipF 101 bs en).1 := ⟨_, rfl⟩
        obtain ⟨ce, hce⟩ : ∃ ce, ce = (skipF 101 bs en).2 := ⟨_, rfl⟩
        rw [← hcb, ← hce] at hr4
        have HRE2 := Aside0.mk (show readB (bytesOf key) = if ce = 0 ∧ cb.length = 0 ∧ checkE l = 0 then (l, 0) else ([], 4) by rw [HRE.out, hcb, hce]; rfl)
        have HR4 := Aside0.mk hr4
        have HC4 := Aside0.mk (show Kd.C k37 w4 A l.length l by
          obtain ⟨A2, c2, hv2, _, hC4⟩ := Kd.R_reads HO4.out
          obtain ⟨rfl, _⟩ : A = A2 ∧ _ := by simpa using hv2
          exact hC4)
        clear hr4 hf4 hcb hce HR HB HO HC HTW HRE HRB
        go_wp2_with (fail)
        refine (err_any g cb ce _ HR4.out).mono ?_
        rintro e w5 ⟨rfl, rfl⟩
        by_cases hc0 : ce = 0
        · subst hc0
          go_wp2_with (fail)
          refine (left_any g cb 0 _ HR4.out).mono ?_
          rintro e w6 ⟨rfl, rfl⟩
          obtain ⟨lc, hlc⟩ : ∃ lc, lc = cb.length := ⟨_, rfl⟩
          have HLC := Aside0.mk hlc
          rw [← hlc]
          clear hlc
          by_cases hl0 : lc = 0
          · subst hl0
            have hck := check_any A c l _ HC4.out
            rw [← HNL.out] at hck
            obtain ⟨ck, hckk⟩ : ∃ ck, ck = checkE l := ⟨_, rfl⟩
            rw [← hckk] at hck
            have HCK := Aside0.mk hck
            have HCE := Aside0.mk hckk
            clear hck hckk
            go_wp2_with (fail)
            refine HCK.out.mono ?_
            rintro e w7 ⟨rfl, hb7⟩
            have HB7 := Aside0.mk (below_then HB4.out HB4.out.size hb7)
            have HO7 := Aside0.mk (Kd.R_below HO4.out hb7)
            clear hb7
            by_cases hk0 : ck = 0
            · subst hk0
              go_wp2_with (fail)
              go_ret2
              rw [HRE2.out, if_pos ⟨by trivial, HLC.out.symm, HCE.out.symm⟩]
              exact ⟨_, rfl, Kd.R_mono HO7.out (fun _ _ => trivial), HB7.out⟩
            · have hk1 : (ck != 0) = true := bne_iff_ne.2 hk0
              have hk2 : (ck == 0) = false := beq_eq_false_iff_ne.2 hk0
              have HK0 := Aside0.mk hk0
              clear hk0
              go_wp2_with (fail)
              go_ret2
              rw [HRE2.out, if_neg (fun h => HK0.out (HCE.out.trans h.2.2))]
              exact ⟨_, rfl, Kd.R_nil _ _ _ _ _, HB7.out⟩
          · have hx1 : decide ((lc : Int) > 0) = true := by simp; omega
            have hx2 : decide (0 < (lc : Int)) = true := by simp; omega
            have hx3 : decide (0 < lc) = true := by simp; omega
            have HL0 := Aside0.mk hl0
            clear hl0
            go_wp2_with (fail)
            go_ret2
            rw [HRE2.out, if_neg (fun h => HL0.out (HLC.out.trans h.2.1))]
            exact ⟨_, rfl, Kd.R_nil _ _ _ _ _, HB4.out⟩
        · have hk1 : (ce != 0) = true := bne_iff_ne.2 hc0
          have hk2 : (ce == 0) = false := beq_eq_false_iff_ne.2 hc0
          have HC0 := Aside0.mk hc0
          clear hc0
          go_wp2_with (fail)
          go_ret2
          rw [HRE2.out, if_neg (fun h => HC0.out h.1)]
          exact ⟨_, rfl, Kd.R_nil _ _ _ _ _, HB4.out⟩
      | succ k1 =>
        have hle : decide ((nl : Int) ≤ 8) = true := by have h1 := HK.out; have h2 := HNL.out; simp; omega
        have hle2 : decide (nl ≤ 8) = true := by have h1 := HK.out; have h2 := HNL.out; simp; omega
        obtain ⟨a, ha⟩ : ∃ a, a = textF bs en 16 := ⟨_, rfl⟩
        obtain ⟨b, hb⟩ : ∃ b, b = textF a.2.1 a.2.2 64 := ⟨_, rfl⟩
        have HLA := Aside0.mk (show a.2.1.length ≤ 140737488351232 by rw [ha]; have := textF_len bs en 16; have := HBL.out; omega)
        have HLB := Aside0.mk (show b.2.1.length ≤ 140737488351232 by rw [hb]; have := textF_len a.2.1 a.2.2 64; have := HLA.out; omega)
        have HRB1 := Aside0.mk (show readB (bytesOf key) = readEnd (readLoop k1 b.2.1 b.2.2 (l ++ [⟨a.1, b.1⟩])) by rw [HRB.out, readLoop, if_pos HMO.out, ← ha, ← hb])
        have HT1 := Aside0.mk (fun W hW hTW => text_any g bs en 16 W hW hTW HBL.out (by omega) (by omega))
        have HT2 := Aside0.mk (fun W hW hTW => text_any g a.2.1 a.2.2 64 W hW hTW HLA.out (by omega) (by omega))
        rw [← ha] at HT1
        rw [← hb] at HT2
        obtain ⟨n1, abs, ae⟩ := a
        obtain ⟨s2, bbs, be⟩ := b
        clear ha hb HRB HC
        go_wp2_with (fail)
        refine (HT1.out _ HR.out HTW.out).mono ?_
        rintro e w4 ⟨rfl, hr4, hf4⟩
        have HB4 := Aside0.mk (hf4.below HB.out HG.out)
        have HO4 := Aside0.mk (R_fr HO.out hf4)
        have HR4 := Aside0.mk hr4
        have HTW4 := Aside0.mk (HT.out.below HB4.out)
        clear hr4 hf4 HR HB HO HTW HT1
        go_wp2_with (fail)
        refine (HT2.out _ HR4.out HTW4.out).mono ?_
        rintro e w5 ⟨rfl, hr5, hf5⟩
        have HB5 := Aside0.mk (hf5.below HB4.out HG.out)
        have HO5 := Aside0.mk (R_fr HO4.out hf5)
        have HR5 := Aside0.mk hr5
        clear hr5 hf5 HR4 HB4 HO4 HTW4 HT2
        have hne : ∀ k, w5.heap.size ≤ k → k ≠ g := fun k hk e => by have := HR5.out.lt; omega
        have HNE := Aside0.mk hne
        clear hne
        go_wp2_with ((with_reducible refine gate_builtin (b := .append) (xs := #[.tmp 18, .tmp 24]) rfl ?_); at_builtin; refine Kd.R_append k37 (w0 := w) w.heap.size rfl (.tmp 18) (.tmp 24) 22 37 (.agg #[.string ⟨#[]⟩, .string ⟨#[]⟩]) 32 rfl Tryz.underlying22 info35R rfl (by decide) (by omega) (.slice A nl c) l ⟨n1, s2⟩ [.string n1, .string s2] (fun k => k ≠ g) (fun _ => False) rfl rfl (k37_mkM _ _ _ ⟨n1, s2⟩) (fun _ hk => hk.elim) HNE.out HO5.out HB5.out HB5.out.size (by have h1 := HK.out; omega) ?_; intro v6 w6 ho6 hb6 hg6 hat6)
        have HB6 := Aside0.mk hb6
        have HO6 := Aside0.mk ho6
        have HR6 := Aside0.mk (show RdAt w6 g bbs be from HR5.out.grown hg6 (fun e => HO5.out.1 g e.symm rfl) (fun k hk => by obtain ⟨inner, ho⟩ := Kd.R_own HO5.out; obtain ⟨cells, hc⟩ := own_typed ho k hk; exact ⟨cells, _, hc⟩))
        clear ho6 hb6 hg6 hat6 HO5 HB5 HR5 HNE
        go_wp2_with (fail)
        go_roundg k1
        case measure => omega
        case rel => exact ⟨l ++ [⟨n1, s2⟩], bbs, be, ⟨by have h1 := HK.out; simp only [List.length_append, List.length_singleton]; omega⟩, HLB, HRB1, HR6, HB6, HO6⟩
    | false =>
      have HRE := Aside0.mk (show readB (bytesOf key) = readEnd (bs, en, l) by
        rw [HRB.out]
        cases gk with
        | zero => rfl
        | succ k => rw [readLoop, if_neg (by rw [hmo]; simp)])
      clear hmo
      go_wp2_with (fail)
      refine (close_any g bs en _ HR.out).mono ?_
      rintro e w4 ⟨rfl, hr4, hf4⟩
      have HB4 := Aside0.mk (hf4.below HB.out HG.out)
      have HO4 := Aside0.mk (R_fr HO.out hf4)
      obtain ⟨cb, hcb⟩ : ∃ cb, cb = (skipF 101 bs en).1 := ⟨_, rfl⟩
      obtain ⟨ce, hce⟩ : ∃ ce, ce = (skipF 101 bs en).2 := ⟨_, rfl⟩
      rw [← hcb, ← hce] at hr4
      have HRE2 := Aside0.mk (show readB (bytesOf key) = if ce = 0 ∧ cb.length = 0 ∧ checkE l = 0 then (l, 0) else ([], 4) by rw [HRE.out, hcb, hce]; rfl)
      have HR4 := Aside0.mk hr4
      have HC4 := Aside0.mk (show Kd.C k37 w4 A l.length l by
        obtain ⟨A2, c2, hv2, _, hC4⟩ := Kd.R_reads HO4.out
        obtain ⟨rfl, _⟩ : A = A2 ∧ _ := by simpa using hv2
        exact hC4)
      clear hr4 hf4 hcb hce HR HB HO HC HTW HRE HRB
      go_wp2_with (fail)
      refine (err_any g cb ce _ HR4.out).mono ?_
      rintro e w5 ⟨rfl, rfl⟩
      by_cases hc0 : ce = 0
      · subst hc0
        go_wp2_with (fail)
        refine (left_any g cb 0 _ HR4.out).mono ?_
        rintro e w6 ⟨rfl, rfl⟩
        obtain ⟨lc, hlc⟩ : ∃ lc, lc = cb.length := ⟨_, rfl⟩
        have HLC := Aside0.mk hlc
        rw [← hlc]
        clear hlc
        by_cases hl0 : lc = 0
        · subst hl0
          have hck := check_any A c l _ HC4.out
          rw [← HNL.out] at hck
          obtain ⟨ck, hckk⟩ : ∃ ck, ck = checkE l := ⟨_, rfl⟩
          rw [← hckk] at hck
          have HCK := Aside0.mk hck
          have HCE := Aside0.mk hckk
          clear hck hckk
          go_wp2_with (fail)
          refine HCK.out.mono ?_
          rintro e w7 ⟨rfl, hb7⟩
          have HB7 := Aside0.mk (below_then HB4.out HB4.out.size hb7)
          have HO7 := Aside0.mk (Kd.R_below HO4.out hb7)
          clear hb7
          by_cases hk0 : ck = 0
          · subst hk0
            go_wp2_with (fail)
            go_ret2
            rw [HRE2.out, if_pos ⟨by trivial, HLC.out.symm, HCE.out.symm⟩]
            exact ⟨_, rfl, Kd.R_mono HO7.out (fun _ _ => trivial), HB7.out⟩
          · have hk1 : (ck != 0) = true := bne_iff_ne.2 hk0
            have hk2 : (ck == 0) = false := beq_eq_false_iff_ne.2 hk0
            have HK0 := Aside0.mk hk0
            clear hk0
            go_wp2_with (fail)
            go_ret2
            rw [HRE2.out, if_neg (fun h => HK0.out (HCE.out.trans h.2.2))]
            exact ⟨_, rfl, Kd.R_nil _ _ _ _ _, HB7.out⟩
        · have hx1 : decide ((lc : Int) > 0) = true := by simp; omega
          have hx2 : decide (0 < (lc : Int)) = true := by simp; omega
          have hx3 : decide (0 < lc) = true := by simp; omega
          have HL0 := Aside0.mk hl0
          clear hl0
          go_wp2_with (fail)
          go_ret2
          rw [HRE2.out, if_neg (fun h => HL0.out (HLC.out.trans h.2.1))]
          exact ⟨_, rfl, Kd.R_nil _ _ _ _ _, HB4.out⟩
      · have hk1 : (ce != 0) = true := bne_iff_ne.2 hc0
        have hk2 : (ce == 0) = false := beq_eq_false_iff_ne.2 hc0
        have HC0 := Aside0.mk hc0
        clear hc0
        go_wp2_with (fail)
        go_ret2
        rw [HRE2.out, if_neg (fun h => HC0.out h.1)]
        exact ⟨_, rfl, Kd.R_nil _ _ _ _ _, HB4.out⟩
theorem LRead.calls (a0 : ByteArray) (r1 : List (S37)) (r2 : Int) (w : World) (hT : TabE w) (h : LRead.f a0 = some (r1, r2)) :
    Calls Tryz.prog 4 #[.string a0] w fun e w' => ∃ v0_ : Value, e = .returned (.tuple #[v0_, .int .i64 r2]) ∧ Kd.R k37 37 w' w.heap.size (fun _ => True) v0_ r1 ∧ Below w.heap.size w w' := by
  unfold LRead.f at h
  by_cases hs : a0.size ≤ 140737488351232
  · rw [if_pos hs] at h
    have h' := Option.some.inj h
    have := read_any a0 w hT hs
    rw [h'] at this
    exact this
  · rw [if_neg hs] at h; cases h
end Go.Proofs.YtjgommaikaeobaaGreatDoor.G
