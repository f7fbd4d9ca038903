/- group.Counts: what it answers, as a plain Lean function, with its contract. -/
import Derived.Test.YtpbemhjiffnamaaDoorRF
import Derived.Test.YtpbemhjiffnamaaDoorRI
import Derived.Test.YtpbemhjiffnamaaDoorP0
set_option linter.unusedVariables false
set_option linter.unusedSimpArgs false
namespace Go.Proofs.YtpbemhjiffnamaaDoor.G
open Go.RowKit Go.Shelf Go.Lib Go.Proofs.YtpbemhjiffnamaaDoorW.PrintWords Go.Proofs.YtpbemhjiffnamaaDoorW.PrintMore Go.Proofs.YtpbemhjiffnamaaDoor.P Go.Proofs.YtpbemhjiffnamaaDoor.RD

/-- What is counted: so many rounds at most. -/
def countLoop (N : Int) : Nat → List Int → Int → Int → Int → Option (Int × Int)
  | 0, _, _, _, _ => none
  | k + 1, bs, e, a, b => if moreF bs then
      (if (intF (textF bs e N).2.1 (textF bs e N).2.2).2.2 ≠ 0 ∨ (intF (textF bs e N).2.1 (textF bs e N).2.2).1 < 0 ∨ 1 < (intF (textF bs e N).2.1 (textF bs e N).2.2).1 then some (0, 0)
      else if (intF (textF bs e N).2.1 (textF bs e N).2.2).1 = 1 then countLoop N k (intF (textF bs e N).2.1 (textF bs e N).2.2).2.1 (intF (textF bs e N).2.1 (textF bs e N).2.2).2.2 (wrap64 (a + 1)) b
      else countLoop N k (intF (textF bs e N).2.1 (textF bs e N).2.2).2.1 (intF (textF bs e N).2.1 (textF bs e N).2.2).2.2 a (wrap64 (b + 1)))
    else if (skipF 101 bs e).2 ≠ 0 ∨ 0 < (skipF 101 bs e).1.length then some (0, 0) else some (a, b)
def GCountsG.f (a0 : ByteArray) : Option (Int × Int) := if a0.size ≤ 1000000000 then countLoop a0.size (a0.size + 1) (skipF 108 (bytesOf a0) 0).1 (skipF 108 (bytesOf a0) 0).2 0 0 else none
set_option maxHeartbeats 4000000 in
set_option maxRecDepth 100000 in
theorem counts_any (key : ByteArray) (K : Nat) (r1 r2 : Int) (w : World) (hT : TabE w) (hn : key.size ≤ 1000000000) (h : countLoop key.size K (skipF 108 (bytesOf key) 0).1 (skipF 108 (bytesOf key) 0).2 0 0 = some (r1, r2)) :
    Calls Tryd.prog 11 #[.string key] w fun e w' => e = .returned (.tuple #[.int .i64 r1, .int .i64 r2]) ∧ Below w.heap.size w w' := by
  have kb := fun W => print_bytes (P := Tryd.prog) 9 36 5 Tryd.underlying9 Tryd.underlying36 Tryd.underlying5 key W
  have HT := Aside0.mk hT
  have HKN := Aside0.mk hn
  have HBW := Aside0.mk (Lib.bytesWorld_below w 5 key)
  have hsz : (Lib.bytesWorld w 5 key).heap.size = w.heap.size + 1 := Lib.bytesWorld_size w 5 key
  have HSZ := Aside0.mk hsz
  have hlen := bytesOf_length key
  have hnew := new_any (some ⟨w.heap.size, 0, none⟩) (grownCap w key.size 0 5) (bytesOf key) (Lib.bytesWorld w 5 key)
    (by rw [hlen]; exact Kd.C_of_reads (enc := Value.int .u8) (d := (0 : Int)) (h1 := fun _ => rfl) (bytes_reads w 5 key (by omega))) (by rw [hlen]; exact grownCap_ge _ _ _ _) (fun ad had => by cases had; show w.heap.size < _; omega) (bytesOf_bound key) (fun ad had _ => by cases had; exact ⟨_, _, _, Lib.bytesWorld_at_new w 5 key, by simp⟩)
  rw [hlen] at hnew
  have HNEW := Aside0.mk hnew
  have HL := Aside0.mk hlen
  have HH := Aside0.mk h
  clear hT hn hsz hnew hlen h
  go_enter Tryd.func11, Tryd.ntmps11
  go_wp2_with (fail)
  refine HNEW.out.mono ?_
  rintro e w1 ⟨rfl, hr1, hb1⟩
  obtain ⟨g, hg⟩ : ∃ g, g = (Lib.bytesWorld w 5 key).heap.size := ⟨_, rfl⟩
  have HG := Aside0.mk (show w.heap.size ≤ g by rw [hg, HSZ.out]; omega)
  have HB1 := Aside0.mk (below_then HBW.out HBW.out.size hb1)
  rw [← hg] at hr1 ⊢
  have HR1 := Aside0.mk hr1
  clear hr1 hb1 hg HNEW HSZ kb
  go_wp2_with (fail)
  refine (open_any g _ _ _ HR1.out).mono ?_
  rintro e w2 ⟨rfl, hr2, hf2⟩
  obtain ⟨B0, hB0⟩ : ∃ B0, B0 = (skipF 108 (bytesOf key) 0).1 := ⟨_, rfl⟩
  obtain ⟨E0, hE0⟩ : ∃ E0, E0 = (skipF 108 (bytesOf key) 0).2 := ⟨_, rfl⟩
  rw [← hB0, ← hE0] at hr2 HH
  have HBL := Aside0.mk (show B0.length ≤ 140737488351232 by rw [hB0]; have := skipF_len 108 (bytesOf key) 0; rw [HL.out] at this; have := HKN.out; omega)
  have HR2 := Aside0.mk hr2
  have HB2 := Aside0.mk (hf2.below HB1.out HG.out)
  clear hr2 hf2 HR1 HB1 hB0 hE0
  go_wp2_with (fail)
  go_loopg [2, 3] K (fun kq v2 v3 wr => ∃ (a b : Int) (bs : List Int) (en : Int), v2 = .int .i64 a ∧ v3 = .int .i64 b ∧ Aside0 (bs.length ≤ 140737488351232) ∧ Aside0 (countLoop key.size kq bs en a b = some (r1, r2)) ∧ Aside0 (RdAt wr g bs en) ∧ Aside0 (Below w.heap.size w wr))
  case atStart => exact ⟨0, 0, B0, E0, rfl, rfl, HBL, HH, HR2, HB2⟩
  case round =>
    clear HBL HH HR2 HB2
    obtain ⟨a, b, bs, en, rfl, rfl, HBL, HH, HR, HB⟩ := hrel
    have HTW := Aside0.mk (HT.out.below HB.out)
    cases gk with
    | zero => exact absurd HH.out (by simp [countLoop])
    | succ k1 =>
    have hh := HH.out
    simp only [countLoop] at hh
    go_wp2_with (fail)
    refine (more_any g bs en _ HR.out).mono ?_
    rintro e w3 ⟨rfl, rfl⟩
    cases hmo : moreF bs with
    | true =>
      rw [if_pos hmo] at hh
      clear HH hmo
      obtain ⟨p, hp⟩ : ∃ p, p = textF bs en key.size := ⟨_, rfl⟩
      rw [← hp] at hh
      obtain ⟨q, hq⟩ : ∃ q, q = intF p.2.1 p.2.2 := ⟨_, rfl⟩
      rw [← hq] at hh
      have HLA := Aside0.mk (show p.2.1.length ≤ 140737488351232 by rw [hp]; have := textF_len bs en key.size; have := HBL.out; omega)
      have HLB := Aside0.mk (show q.2.1.length ≤ 140737488351232 by rw [hq]; have := intF_len p.2.1 p.2.2; have := HLA.out; omega)
      have HT1 := Aside0.mk (fun W hW hTW => text_any g bs en key.size W hW hTW HBL.out (by omega) (by have := HKN.out; omega))
      have HT2 := Aside0.mk (fun W hW hTW => int_any g p.2.1 p.2.2 W hW hTW HLA.out)
      rw [← hp] at HT1
      rw [← hq] at HT2
      obtain ⟨n1, abs, ae⟩ := p
      obtain ⟨n, bbs, be⟩ := q
      have HH := Aside0.mk hh
      clear hp hq hh
      go_wp2_with (fail)
      refine (HT1.out _ HR.out HTW.out).mono ?_
      rintro e w4 ⟨rfl, hr4, hf4⟩
      have HB4 := Aside0.mk (hf4.below HB.out HG.out)
      have HR4 := Aside0.mk hr4
      have HTW4 := Aside0.mk (HT.out.below HB4.out)
      clear hr4 hf4 HR HB HTW HT1
      go_wp2_with (fail)
      refine (HT2.out _ HR4.out HTW4.out).mono ?_
      rintro e w5 ⟨rfl, hr5, hf5⟩
      have HB5 := Aside0.mk (hf5.below HB4.out HG.out)
      have HR5 := Aside0.mk (show RdAt w5 g bbs be from hr5)
      clear hr5 hf5 HR4 HB4 HTW4 HT2
      go_wp2_with (fail)
      refine (err_any g bbs be _ HR5.out).mono ?_
      rintro e w6 ⟨rfl, rfl⟩
      have hh := HH.out
      clear HH
      by_cases hc : be ≠ 0 ∨ n < 0 ∨ 1 < n
      · rw [if_pos hc] at hh
        have hcase : ((be != 0) = true ∧ (be == 0) = false) ∨ (be = 0 ∧ decide (n < 0) = true) ∨ (be = 0 ∧ decide (n < 0) = false ∧ decide (n > 1) = true ∧ decide (1 < n) = true) := by
          by_cases h1 : be = 0
          · right
            by_cases h2 : n < 0
            · exact .inl ⟨h1, by simpa using h2⟩
            · right
              have h3 : 1 < n := by omega
              exact ⟨h1, by simpa using h2, by simpa using h3, by simpa using h3⟩
          · exact .inl ⟨bne_iff_ne.2 h1, beq_eq_false_iff_ne.2 h1⟩
        have HE := Aside0.mk (Option.some.inj hh)
        clear hh hc
        rcases hcase with ⟨q1, q2⟩ | ⟨rfl, q1⟩ | ⟨rfl, q1, q2, q3⟩
        all_goals
          go_wp2_with (fail)
          go_ret2
          obtain ⟨rfl, rfl⟩ := Prod.mk.inj HE.out
          exact ⟨by trivial, HB5.out⟩
      · rw [if_neg hc] at hh
        obtain rfl : be = 0 := by omega
        have q1 : decide (n < 0) = false := by simp; omega
        have q2 : decide (n > 1) = false := by simp; omega
        have q3 : decide (1 < n) = false := by simp; omega
        by_cases h1 : n = 1
        · rw [if_pos h1] at hh
          subst h1
          have HH := Aside0.mk hh
          clear hh hc q1 q2 q3
          go_wp2_with (fail)
          go_roundg k1
          case measure => omega
          case rel => exact ⟨_, _, bbs, 0, rfl, rfl, HLB, HH, HR5, HB5⟩
        · rw [if_neg h1] at hh
          have q4 : (n == 1) = false := beq_eq_false_iff_ne.2 h1
          have HH := Aside0.mk hh
          clear hh hc h1
          go_wp2_with (fail)
          go_roundg k1
          case measure => omega
          case rel => exact ⟨_, _, bbs, 0, rfl, rfl, HLB, HH, HR5, HB5⟩
    | false =>
      rw [if_neg (by rw [hmo]; simp)] at hh
      clear HH hmo
      obtain ⟨cb, hcb⟩ : ∃ cb, cb = (skipF 101 bs en).1 := ⟨_, rfl⟩
      obtain ⟨ce, hce⟩ : ∃ ce, ce = (skipF 101 bs en).2 := ⟨_, rfl⟩
      rw [← hcb, ← hce] at hh
      have HH := Aside0.mk hh
      clear hh
      go_wp2_with (fail)
      refine (close_any g bs en _ HR.out).mono ?_
      rintro e w4 ⟨rfl, hr4, hf4⟩
      have HB4 := Aside0.mk (hf4.below HB.out HG.out)
      rw [← hcb, ← hce] at hr4
      have HR4 := Aside0.mk hr4
      clear hr4 hf4 hcb hce HR HB HTW
      go_wp2_with (fail)
      refine (err_any g cb ce _ HR4.out).mono ?_
      rintro e w5 ⟨rfl, rfl⟩
      by_cases hc0 : ce = 0
      · subst hc0
        go_wp2_with (fail)
        refine (left_any g cb 0 _ HR4.out).mono ?_
        rintro e w6 ⟨rfl, rfl⟩
        have hh := HH.out
        clear HH
        obtain ⟨lc, hlc⟩ : ∃ lc, lc = cb.length := ⟨_, rfl⟩
        rw [← hlc] at hh ⊢
        clear hlc
        by_cases hl0 : lc = 0
        · subst hl0
          rw [if_neg (by simp)] at hh
          have HE := Aside0.mk (Option.some.inj hh)
          clear hh
          go_wp2_with (fail)
          go_ret2
          obtain ⟨rfl, rfl⟩ := Prod.mk.inj HE.out
          exact ⟨by trivial, HB4.out⟩
        · rw [if_pos (.inr (by omega))] at hh
          have HE := Aside0.mk (Option.some.inj hh)
          have hx1 : decide ((lc : Int) > 0) = true := by simp; omega
          have hx2 : decide (0 < (lc : Int)) = true := by simp; omega
          have hx3 : decide (0 < lc) = true := by simp; omega
          clear hh hl0
          go_wp2_with (fail)
          go_ret2
          obtain ⟨rfl, rfl⟩ := Prod.mk.inj HE.out
          exact ⟨by trivial, HB4.out⟩
      · have hh := HH.out
        clear HH
        rw [if_pos (.inl hc0)] at hh
        have HE := Aside0.mk (Option.some.inj hh)
        have hk1 : (ce != 0) = true := bne_iff_ne.2 hc0
        have hk2 : (ce == 0) = false := beq_eq_false_iff_ne.2 hc0
        clear hc0 hh
        go_wp2_with (fail)
        go_ret2
        obtain ⟨rfl, rfl⟩ := Prod.mk.inj HE.out
        exact ⟨by trivial, HB4.out⟩
theorem GCountsG.calls (a0 : ByteArray) (r1 : Int) (r2 : Int) (w : World) (hT : TabE w) (h : GCountsG.f a0 = some (r1, r2)) :
    Calls Tryd.prog 11 #[.string a0] w fun e w' => e = .returned (.tuple #[.int .i64 r1, .int .i64 r2]) ∧ Below w.heap.size w w' := by
  unfold GCountsG.f at h
  by_cases hs : a0.size ≤ 1000000000
  · rw [if_pos hs] at h
    exact counts_any a0 _ r1 r2 w hT hs h
  · rw [if_neg hs] at h; cases h
end Go.Proofs.YtpbemhjiffnamaaDoor.G
