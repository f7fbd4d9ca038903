/- kind.ranges. -/
import Derived.Test.YtgipdacenppmdaaDoorIU
set_option linter.unusedVariables false
set_option linter.unusedSimpArgs false
namespace Go.Proofs.YtgipdacenppmdaaDoor.G
open Go.RowKit Go.Shelf Go.Lib Go.Sort Go.Proofs.YtgipdacenppmdaaDoorW.PrintWords Go.Proofs.YtgipdacenppmdaaDoor.P
theorem splitB_le (sep : ByteArray) (save : Nat) : ∀ (k : Nat) (s : ByteArray) (x : ByteArray), x ∈ Lib.splitB sep save k s → x.size ≤ s.size
  | 0, s, x, h => by
    rw [Lib.splitB_zero, List.mem_singleton] at h
    subst h; exact Nat.le_refl _
  | k + 1, s, x, h => by
    unfold Lib.splitB at h
    split at h
    · rw [List.mem_singleton] at h; subst h; exact Nat.le_refl _
    · rcases List.mem_cons.1 h with rfl | h
      · rw [ByteArray.size_extract]; omega
      · have := splitB_le sep save k _ x h
        rw [ByteArray.size_extract] at this
        omega
theorem at_S {w : World} {A : Option Addr} {n : Nat} {xs : List ByteArray} (h : Kd.C Kd.string w A n xs) (i : Nat) (hi : i < n) : ∃ ad, A = some ad ∧ w.cell? (ad.add i) = some (.string (xs.getD i ByteArray.empty)) := by
  obtain ⟨ad, c, hA, _, hK, hc⟩ := Kd.C_get h ByteArray.empty (i : Int) (by omega) (by omega)
  have hK2 : c = [Value.string (xs.getD (i : Int).toNat ByteArray.empty)] := hK
  subst hK2
  have := hc 0 _ rfl
  rw [Int.toNat_natCast, show Kd.string.sz = 1 from rfl, Nat.mul_one, Nat.add_zero] at this
  exact ⟨ad, hA, this⟩
def cut2 (s t : ByteArray) : ByteArray × ByteArray × Bool := (⟨(Lib.cut s.data.toList t.data.toList).1.toArray⟩, ⟨(Lib.cut s.data.toList t.data.toList).2.1.toArray⟩, (Lib.cut s.data.toList t.data.toList).2.2)
theorem cut2_le (s t : ByteArray) : (cut2 s t).1.size ≤ s.size ∧ (cut2 s t).2.1.size ≤ s.size := cut_le s.data.toList t.data.toList
def rngR (k : Int) (s : ByteArray) : S37 := ⟨numB k (cut2 s ⟨#[46, 46]⟩).1, if (cut2 s ⟨#[46, 46]⟩).2.2 = true then numB k (cut2 s ⟨#[46, 46]⟩).2.1 else numB k (cut2 s ⟨#[46, 46]⟩).1⟩
def splitC (s c : ByteArray) : List ByteArray := Lib.splitB c 0 (Lib.countB s c) s
theorem split_f (s c : ByteArray) (hs : s.size ≤ 1000000) (hc : 1 ≤ c.size) : SSplit.f s c = some (splitC s c) := by
  unfold SSplit.f; rw [if_pos ⟨by omega, hc⟩]; rfl
theorem splitC_le (s c x : ByteArray) (h : x ∈ splitC s c) : x.size ≤ s.size := splitB_le _ _ _ _ _ h
theorem splitC_len (s c : ByteArray) (hc : 1 ≤ c.size) : 1 ≤ (splitC s c).length ∧ (splitC s c).length ≤ s.size + 1 := by
  unfold splitC
  rw [Lib.splitB_all c hc 0 _ s rfl]
  have := Lib.countB_le c hc s.size s (Nat.le_refl _)
  omega
theorem cut_f (s t : ByteArray) (hs : s.size ≤ 1000000) : SCut.f s t = some ((cut2 s t).1, (cut2 s t).2.1, (cut2 s t).2.2) := by
  unfold SCut.f; rw [if_pos (by omega)]; rfl
theorem number_f (k : Int) (s : ByteArray) (hs : s.size ≤ 1000000) : KNumber.f k s = some (numB k s) := by
  unfold KNumber.f; rw [if_pos hs]
theorem take_map_s {α β : Type} (l : List α) (g : α → β) (d : α) (i : Nat) (h : i < l.length) : (l.take (i + 1)).map g = (l.take i).map g ++ [g (l.getD i d)] := by
  rw [List.take_add_one, List.map_append]
  congr 1
  simp [h]
theorem size_set (W : World) (p : Addr) (v : Value) : (W.setCell p v).heap.size = W.heap.size := by simp [World.setCell]
theorem size_alloc2 (W : World) (o : Obj) : (W.alloc o).heap.size = W.heap.size + 1 := by simp
theorem info37 : (Tryd.prog.info? 37).map (fun i => (i.zero, i.size, i.bytes)) = some (some (.agg #[.int .i64 0, .int .i64 0]), 2, 16) := by kernel_rfl
set_option maxHeartbeats 8000000 in
set_option maxRecDepth 100000 in
theorem KRanges.calls (k : Int) (s : ByteArray) (w : World) (hT : TabS w) (hs : s.size ≤ 1000000) :
    Calls Tryd.prog 28 #[.int .i64 k, .string s] w fun e w' => ∃ v : Value, e = .returned v ∧ Kd.R k37 37 w' w.heap.size (fun _ => True) v ((splitC s ⟨#[44]⟩).map (rngR k)) ∧ Below w.heap.size w w' := by
  have HT := Aside0.mk hT
  have HS := Aside0.mk hs
  obtain ⟨l, hl⟩ : ∃ l, l = splitC s ⟨#[44]⟩ := ⟨_, rfl⟩
  have HSP := Aside0.mk (SSplit.calls s ⟨#[44]⟩ _ w hT (split_f s ⟨#[44]⟩ hs (by decide)))
  have HLE := Aside0.mk (show ∀ x ∈ l, x.size ≤ 1000000 from fun x hx => by rw [hl] at hx; have := splitC_le _ _ _ hx; omega)
  have hln : l.length ≤ 1000001 := by rw [hl]; have := splitC_len s ⟨#[44]⟩ (by decide); omega
  rw [← hl] at HSP ⊢
  clear hT hs hl
  obtain ⟨n, hn⟩ : ∃ n, n = l.length := ⟨_, rfl⟩
  have HLN := Aside0.mk hn
  have hnn : n ≤ 1000001 := by omega
  clear hn hln
  go_enter Tryd.func28, Tryd.ntmps28
  go_wp2_with (fail)
  refine HSP.out.mono ?_
  rintro e w1 ⟨v0, rfl, hR, hb⟩
  obtain ⟨A, c, hv, _, hC⟩ := Kd.R_reads hR
  rw [← HLN.out] at hv hC
  subst hv
  have HC := Aside0.mk hC
  have HB1 := Aside0.mk hb
  clear hC hR hb
  go_wp2_with (fail)
  go_loopg [5, 15] (n + 1) (fun kq u5 u15 wr => ∃ (j : Nat) (o : List S37), u15 = .int .i64 (j : Int) ∧ Aside0 (j ≤ n ∧ j + kq = n + 1) ∧ Aside0 (Below w1.heap.size w1 wr) ∧ Aside0 (Kd.R k37 37 wr w1.heap.size (fun _ => True) u5 o) ∧ Aside0 (o = (l.take j).map (rngR k)))
  case atStart => exact ⟨0, [], rfl, ⟨by omega⟩, ⟨Below.refl _ _⟩, ⟨Kd.R_nil _ _ _ _ _⟩, ⟨by simp⟩⟩
  case round =>
    obtain ⟨j, o, rfl, HJ, HB, HO, HOE⟩ := hrel
    obtain ⟨hj0, hjk⟩ := HJ.out
    by_cases hj : j < n
    · cases gk with
      | zero => exact absurd hjk (by omega)
      | succ k1 =>
        have d1 : decide ((j : Int) < (n : Int)) = true := decide_eq_true (by omega)
        have d2 : decide (j < n) = true := decide_eq_true hj
        obtain ⟨ad, hA, f0⟩ := at_S (Kd.C_below HC.out HB.out) j hj
        subst hA
        obtain ⟨x, hx⟩ : ∃ x, x = l.getD j ByteArray.empty := ⟨_, rfl⟩
        rw [← hx] at f0
        have HX := Aside0.mk hx
        have hjl : j < l.length := by rw [← HLN.out]; exact hj
        have hxs : x.size ≤ 1000000 := HLE.out x (by rw [hx, List.getD_eq_getElem?_getD, List.getElem?_eq_getElem hjl]; exact List.getElem_mem _)
        have hT1 := HT.out.below (below_then HB1.out HB1.out.size HB.out)
        have HCU := Aside0.mk (SCut.calls x ⟨#[46, 46]⟩ _ _ _ wr hT1 (cut_f x ⟨#[46, 46]⟩ hxs))
        have HRR := Aside0.mk (show rngR k x = _ from rfl)
        have hcl := cut2_le x ⟨#[46, 46]⟩
        have hrr : rngR k x = ⟨numB k (cut2 x ⟨#[46, 46]⟩).1, if (cut2 x ⟨#[46, 46]⟩).2.2 = true then numB k (cut2 x ⟨#[46, 46]⟩).2.1 else numB k (cut2 x ⟨#[46, 46]⟩).1⟩ := rfl
        obtain ⟨xa, hxa⟩ : ∃ xa, xa = (cut2 x ⟨#[46, 46]⟩).1 := ⟨_, rfl⟩
        obtain ⟨xb, hxb⟩ : ∃ xb, xb = (cut2 x ⟨#[46, 46]⟩).2.1 := ⟨_, rfl⟩
        obtain ⟨fb, hfb⟩ : ∃ fb, fb = (cut2 x ⟨#[46, 46]⟩).2.2 := ⟨_, rfl⟩
        rw [← hxa, ← hxb] at hcl
        rw [← hxa, ← hxb, ← hfb] at HCU hrr
        clear hxa hxb hfb hx HRR hjl
        have HNU := Aside0.mk (fun W (hW : Below wr.heap.size wr W) => KNumber.calls k xa _ W (hT1.below hW) (number_f k xa (by omega)))
        have HNV := Aside0.mk (fun W (hW : Below wr.heap.size wr W) => KNumber.calls k xb _ W (hT1.below hW) (number_f k xb (by omega)))
        obtain ⟨na, hna⟩ : ∃ na, na = numB k xa := ⟨_, rfl⟩
        obtain ⟨nb, hnb⟩ : ∃ nb, nb = numB k xb := ⟨_, rfl⟩
        rw [← hna] at HNU
        rw [← hnb] at HNV
        rw [← hna, ← hnb] at hrr
        have HRR := Aside0.mk hrr
        clear hna hnb hrr hcl hT1 hxs
        go_wp2_with (fail)
        refine HCU.out.mono ?_
        rintro e w2 ⟨rfl, hb2⟩
        have HB2 := Aside0.mk hb2
        clear hb2 f0
        go_wp2_with (fail)
        refine (HNU.out w2 HB2.out).mono ?_
        rintro e w3 ⟨rfl, hb3⟩
        have HB3 := Aside0.mk (below_then HB2.out HB2.out.size hb3)
        clear hb3
        have hol : o.length ≤ 1000001 := by rw [HOE.out, List.length_map]; exact Nat.le_trans (List.length_take_le _ _) (by omega)
        cases fb with
        | false =>
          have hrr := HRR.out
          simp only [Bool.false_eq_true, if_false] at hrr
          have HRR2 := Aside0.mk hrr
          clear HRR hrr HNV
          have HB4 := Aside0.mk (below_alloc (below_then HB.out HB.out.size HB3.out) (.cells #[.int .i64 na, .int .i64 na] 37))
          have HO4 := Aside0.mk (Kd.R_below HO.out (below_alloc HB3.out (.cells #[.int .i64 na, .int .i64 na] 37)))
          go_wp2_with ((with_reducible refine gate_builtin (b := .append) (xs := #[.tmp 37, .tmp 39]) rfl ?_); at_builtin; refine Kd.R_append k37 (w0 := w1) w1.heap.size rfl (.tmp 37) (.tmp 39) 22 37 (.agg #[.int .i64 0, .int .i64 0]) 16 rfl Tryd.underlying22 info37 rfl (by decide) (by omega) u5 o (⟨na, na⟩ : S37) [.int .i64 na, .int .i64 na] (fun _ => True) (fun _ => False) rfl (by first | rfl | (rw [size_set]; rfl) | (rw [size_alloc2]; rfl)) (k37_mkM _ _ _ (⟨na, na⟩ : S37)) (fun _ hk => hk.elim) (fun _ _ => trivial) HO4.out HB4.out (HB4.out).size (by omega) ?_; intro v5' w5 ho5 hb5 hg5 hat5)
          have HB5 := Aside0.mk hb5
          have HO5 := Aside0.mk ho5
          clear ho5 hb5 hg5 hat5
          go_wp2_with (fail)
          go_roundg k1
          case measure => omega
          case rel => exact ⟨j + 1, o ++ [⟨na, na⟩], by first | rfl | simp, ⟨by omega⟩, HB5, HO5, ⟨by rw [take_map_s l _ ByteArray.empty j (by rw [← HLN.out]; exact hj), ← HX.out, HRR2.out, ← HOE.out]⟩⟩
        | true =>
          have hrr := HRR.out
          simp only [if_true] at hrr
          have HRR2 := Aside0.mk hrr
          clear HRR hrr
          go_wp2_with (fail)
          refine (HNV.out _ (below_alloc HB3.out _)).mono ?_
          rintro e w5 ⟨rfl, hb5⟩
          have hp5 : w5.heap[w3.heap.size]? = some (.cells #[.int .i64 na, .int .i64 na] 37 (0, 0)) := (hb5.block _ (by simp)).trans (heap_alloc_new w3 _)
          have hb35 := below_then (below_alloc HB3.out (.cells #[.int .i64 na, .int .i64 na] 37)) (Nat.le_trans HB3.out.size (by simp)) hb5
          obtain ⟨pp, hpp⟩ : ∃ pp, pp = w3.heap.size := ⟨_, rfl⟩
          have hpl : wr.heap.size ≤ pp := by rw [hpp]; exact HB3.out.size
          rw [← hpp] at hp5 ⊢
          have y0 := (blk_cell hp5 0).trans rfl
          have y1 := (blk_cell hp5 1).trans rfl
          have yf := blk_frozen hp5 1
          have hpz : pp < w5.heap.size := blk_lt hp5
          have HB5 := Aside0.mk (below_set (g := pp) (j := 1) (v := .int .i64 nb) (below_then HB.out HB.out.size hb35) (Nat.le_trans HB.out.size hpl))
          have HO5 := Aside0.mk (Kd.R_mono (ok' := fun _ => True) (Kd.R_far (Kd.R_below (Kd.R_mono (ok' := fun k => k ≠ pp) (Kd.R_bound HO.out) (fun k hk e => by have := hk.2.2.1; omega)) hb35) (p := ⟨pp, 1, none⟩) (fun k hk => hk) (.int .i64 nb)) (fun _ _ => trivial))
          clear hb5 hb35 hpp hp5
          go_wp2_with ((with_reducible refine gate_builtin (b := .append) (xs := #[.tmp 37, .tmp 39]) rfl ?_); at_builtin; refine Kd.R_append k37 (w0 := w1) w1.heap.size rfl (.tmp 37) (.tmp 39) 22 37 (.agg #[.int .i64 0, .int .i64 0]) 16 rfl Tryd.underlying22 info37 rfl (by decide) (by omega) u5 o (⟨na, nb⟩ : S37) [.int .i64 na, .int .i64 nb] (fun _ => True) (fun _ => False) rfl (by first | rfl | (rw [size_set]; rfl) | (rw [size_alloc2]; rfl)) (k37_mkM _ _ _ (⟨na, nb⟩ : S37)) (fun _ hk => hk.elim) (fun _ _ => trivial) HO5.out HB5.out (HB5.out).size (by omega) ?_; intro v6' w6 ho6 hb6 hg6 hat6)
          have HB6 := Aside0.mk hb6
          have HO6 := Aside0.mk ho6
          clear ho6 hb6 hg6 hat6 y0 y1 yf
          go_wp2_with (fail)
          go_roundg k1
          case measure => omega
          case rel => exact ⟨j + 1, o ++ [⟨na, nb⟩], by first | rfl | simp, ⟨by omega⟩, HB6, HO6, ⟨by rw [take_map_s l _ ByteArray.empty j (by rw [← HLN.out]; exact hj), ← HX.out, HRR2.out, ← HOE.out]⟩⟩
    · have d1 : decide ((j : Int) < (n : Int)) = false := decide_eq_false (by omega)
      have d2 : decide (j < n) = false := decide_eq_false hj
      have HZ := Aside0.mk (show o = l.map (rngR k) by rw [HOE.out, List.take_of_length_le (by rw [← HLN.out]; omega)])
      clear HOE
      go_wp2_with (fail)
      go_ret
      refine ⟨_, rfl, ?_, below_then HB1.out HB1.out.size HB.out⟩
      rw [← HZ.out]
      exact Kd.R_lower HO.out HB1.out.size
end Go.Proofs.YtgipdacenppmdaaDoor.G
