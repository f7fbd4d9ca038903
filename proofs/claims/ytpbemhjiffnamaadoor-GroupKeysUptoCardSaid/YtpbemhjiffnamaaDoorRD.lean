/- The reader of bytes (ben.Reader): what its calls do to it, as plain Lean functions, each with its contract. -/
import Derived.Test.YtpbemhjiffnamaaDoorKB
import Derived.Test.YtpbemhjiffnamaaDoorTabS
import Derived.Test.YtpbemhjiffnamaaDoorLayB
import Derived.Shelf.Strconv.ErrVarParseInt
set_option linter.unusedVariables false
set_option linter.unusedSimpArgs false
namespace Go.Proofs.YtpbemhjiffnamaaDoor.RD
open Go.RowKit Go.Shelf Go.Lib Go.Proofs.YtpbemhjiffnamaaDoorW.PrintWords Go.Proofs.YtpbemhjiffnamaaDoor.G Go.Proofs.YtpbemhjiffnamaaDoor.P

/-! ### what stays -/
/-- All but block g is as it was; what is new lies above. -/
def Fr (w w' : World) (g : Nat) : Prop := Below g w w' ∧ KeepBut w w' g none
theorem Fr.refl (w : World) (g : Nat) : Fr w w g := ⟨Below.refl _ _, KeepBut.refl _ _ _⟩
theorem Fr.trans {w w1 w2 : World} {g : Nat} (h : Fr w w1 g) (k : Fr w1 w2 g) : Fr w w2 g := ⟨h.1.trans k.1, h.2.trans k.2 (.inl rfl)⟩
theorem Fr.of_below {w w1 : World} {g : Nat} (h : Below w.heap.size w w1) (hg : g < w.heap.size) : Fr w w1 g := ⟨⟨h.os, h.tape, h.output, h.size, fun i hi => h.block i (by omega)⟩, KeepBut.of_below h g none⟩
theorem Fr.set (w : World) (g j : Nat) (u : Value) : Fr w (w.setCell ⟨g, j, none⟩ u) g :=
  ⟨(Below.refl g w).setCell (p := ⟨g, j, none⟩) (Nat.le_refl _) u, (KeepBut.refl w g none).set_ j u⟩
theorem Fr.below {w0 w w' : World} {g : Nat} (h : Fr w w' g) (hb : Below w0.heap.size w0 w) (hg : w0.heap.size ≤ g) : Below w0.heap.size w0 w' :=
  hb.trans ⟨h.1.os, h.1.tape, h.1.output, h.1.size, fun i hi => h.1.block i (by omega)⟩
/-! ### the reader -/
/-- The bytes lie where a conversion has laid them: in no row that may be written. -/
def Marked (w : World) (A : Option Addr) (n : Nat) : Prop := ∀ ad, A = some ad → 0 < n → ∃ cells t fr, w.heap[ad.block]? = some (.cells cells t fr) ∧ fr ≠ (0, 0)
theorem Marked.below {w w' : World} {A : Option Addr} {n : Nat} (h : Marked w A n) (hw : Below w.heap.size w w') : Marked w' A n := fun ad ha hn => by
  obtain ⟨cells, t, fr, hb, hf⟩ := h ad ha hn
  exact ⟨cells, t, fr, (hw.block _ (blk_lt hb)).trans hb, hf⟩
theorem Marked.set {w : World} {A : Option Addr} {n g j : Nat} {u : Value} (h : Marked w A n) (hf : ∀ ad, A = some ad → ad.block ≠ g) : Marked (w.setCell ⟨g, j, none⟩ u) A n := fun ad ha hn => by
  obtain ⟨cells, t, fr, hb, hfr⟩ := h ad ha hn
  exact ⟨cells, t, fr, (Below.heap_setCell w ⟨g, j, none⟩ u ad.block (hf ad ha)).trans hb, hfr⟩
theorem Marked.nil (w : World) (A : Option Addr) : Marked w A 0 := fun _ _ h => absurd h (by omega)
def RdAt (w : World) (g : Nat) (bs : List Int) (e : Int) : Prop :=
  ∃ A c, w.heap[g]? = some (.cells #[.slice A bs.length c, .int .i64 e] 61 (0, 0)) ∧ Kd.C (Kd.int .u8) w A bs.length bs ∧ bs.length ≤ c ∧ (∀ ad, A = some ad → ad.block ≠ g) ∧ (∀ b ∈ bs, 0 ≤ b ∧ b ≤ 255) ∧ Marked w A bs.length
theorem RdAt.lt {w : World} {g : Nat} {bs : List Int} {e : Int} (h : RdAt w g bs e) : g < w.heap.size := by
  obtain ⟨A, c, hb, _⟩ := h
  exact blk_lt hb
theorem RdAt.below {w w' : World} {g : Nat} {bs : List Int} {e : Int} (h : RdAt w g bs e) (hw : Below w.heap.size w w') : RdAt w' g bs e := by
  obtain ⟨A, c, hb, hC, r1, r2, r3, r4⟩ := h
  exact ⟨A, c, (hw.block g (blk_lt hb)).trans hb, Kd.C_below hC hw, r1, r2, r3, r4.below hw⟩
theorem RdAt.drewN {w : World} {g : Nat} {bs : List Int} {e : Int} (h : RdAt w g bs e) (n : Nat) : RdAt (w.drewN n) g bs e := h
theorem C_far {w : World} {A : Option Addr} {n g : Nat} {xs : List Int} (h : Kd.C (Kd.int .u8) w A n xs) (hf : ∀ ad, A = some ad → ad.block ≠ g) (j : Nat) (u : Value) : Kd.C (Kd.int .u8) (w.setCell ⟨g, j, none⟩ u) A n xs :=
  Kd.C_keep (0 : Int) h ((KeepBut.refl w g none).set_ j u) (fun ad ha _ => hf ad ha)
theorem two_set {w : World} {g : Nat} {a b : Value} {t : TypeId} (h : w.heap[g]? = some (.cells #[a, b] t (0, 0))) (u : Value) : (w.setCell ⟨g, 0, none⟩ u).heap[g]? = some (.cells #[u, b] t (0, 0)) := by
  have := blk_set h 0 u
  simpa using this
theorem two_set1 {w : World} {g : Nat} {a b : Value} {t : TypeId} (h : w.heap[g]? = some (.cells #[a, b] t (0, 0))) (u : Value) : (w.setCell ⟨g, 1, none⟩ u).heap[g]? = some (.cells #[a, u] t (0, 0)) := by
  have := blk_set h 1 u
  simpa using this
/-- The bytes are cut from the front. -/
theorem RdAt.cut {w : World} {g : Nat} {bs : List Int} {e : Int} {A : Option Addr} {c : Nat} (hb : w.heap[g]? = some (.cells #[.slice A bs.length c, .int .i64 e] 61 (0, 0))) (hC : Kd.C (Kd.int .u8) w A bs.length bs) (hc : bs.length ≤ c) (hf : ∀ ad, A = some ad → ad.block ≠ g) (hr : ∀ b ∈ bs, 0 ≤ b ∧ b ≤ 255) (hM : Marked w A bs.length) (m : Nat) (hm : m ≤ bs.length)
    (A' : Option Addr) (hA : A' = if c = m then A else A.map (·.add m)) : RdAt (w.setCell ⟨g, 0, none⟩ (.slice A' (bs.length - m) (c - m))) g (bs.drop m) e := by
  have hblk : ∀ ad, A' = some ad → ∃ a0, A = some a0 ∧ ad.block = a0.block := fun ad had => by
    rw [hA] at had
    split at had
    · exact ⟨ad, had, rfl⟩
    · obtain ⟨a0, ha0, rfl⟩ := Option.map_eq_some_iff.1 had
      refine ⟨a0, ha0, ?_⟩
      unfold Addr.add
      split <;> rfl
  refine ⟨A', c - m, ?_, ?_, ?_, ?_, fun b hbm => hr b (List.mem_of_mem_drop hbm), fun ad had hn => ?_⟩
  · rw [List.length_drop]
    exact two_set hb _
  · have h1 := Kd.C_drop hC hm hc
    rw [show m * (Kd.int .u8).sz = m from Nat.mul_one m, ← hA] at h1
    refine C_far h1 ?_ 0 _
    rw [hA]
    intro ad had
    split at had
    · exact hf ad had
    · obtain ⟨a0, ha0, rfl⟩ := Option.map_eq_some_iff.1 had
      have := hf a0 ha0
      unfold Addr.add
      split <;> exact this
  · rw [List.length_drop]; omega
  · intro ad had
    obtain ⟨a0, ha0, e⟩ := hblk ad had
    rw [e]; exact hf a0 ha0
  · obtain ⟨a0, ha0, e⟩ := hblk ad had
    rw [List.length_drop] at hn
    rw [e]
    exact Marked.set hM hf a0 ha0 (by omega)

theorem cut_bytes (A : Option Addr) (n c m : Nat) (hm : m ≤ n) : ∃ A' : Option Addr, (A' = if c = m then A else A.map (·.add m)) ∧
    ∀ W : World, (Instr.slice 36 (.slice A n c) (some (.int .i64 (m : Int))) none none).run Tryd.prog W = .ok (.slice A' (n - m) (c - m)) W := by
  refine ⟨_, rfl, fun W => ?_⟩
  have hz : (Tryd.prog.info? 5).map (fun i => i.size) = some 1 := by kernel_rfl
  obtain ⟨i, hi, hsz⟩ := Option.map_eq_some_iff.1 hz
  have hel : Tryd.prog.elem 36 = 5 := by simp [Program.elem, Tryd.underlying36]
  have hu : Tryd.prog.underlying 36 = some (.slice (Tryd.prog.elem 36)) := by rw [hel]; exact Tryd.underlying36
  rw [run_slice_l W 36 A n c hu .i64 (m : Int) (Int.natCast_nonneg _) (by omega), hel]
  simp [sizeOf, typeInfo, hi, hsz, sliced, Result.andThen]
/-- Another row is written: the reader stays. -/
theorem RdAt.grown {w w' : World} {g : Nat} {bs : List Int} {e : Int} (h : RdAt w g bs e) {row : Option Nat} (hg : w.grownBy w' row) (hne : some g ≠ row) (hrow : ∀ k, row = some k → ∃ cells t, w.heap[k]? = some (.cells cells t (0, 0))) : RdAt w' g bs e := by
  obtain ⟨A, c, hb, hC, hc, hf, hr, hM⟩ := h
  have hblk : ∀ ad, A = some ad → 0 < bs.length → w'.heap[ad.block]? = w.heap[ad.block]? := fun ad ha hn => by
    obtain ⟨cells, t, fr, hb2, hfr⟩ := hM ad ha hn
    refine hg.block _ (blk_lt hb2) (fun e2 => ?_)
    obtain ⟨cells', t', hb3⟩ := hrow _ e2.symm
    rw [hb2] at hb3
    injection hb3 with hb3
    injection hb3 with _ _ h3
    exact hfr h3
  refine ⟨A, c, blk_grown hb hg hne, ?_, hc, hf, hr, fun ad ha hn => ?_⟩
  · refine ⟨hC.1, hC.2.1, fun hn => ?_⟩
    obtain ⟨ad, ha, hcs⟩ := hC.2.2 hn
    refine ⟨ad, ha, fun j p hj => ?_⟩
    obtain ⟨cs, h1, h2, h3⟩ := hcs j p hj
    refine ⟨cs, h1, h2, fun i u hu => ?_⟩
    have h4 := h3 i u hu
    have e1 : ∀ m : Nat, (ad.add m).block = ad.block := fun m => by unfold Addr.add; split <;> rfl
    unfold World.cell? at h4 ⊢
    rw [e1, hblk ad ha (by omega)]
    rw [e1] at h4
    exact h4
  · obtain ⟨cells, t, fr, hb2, hfr⟩ := hM ad ha hn
    exact ⟨cells, t, fr, (hblk ad ha hn).trans hb2, hfr⟩
/-! ### New, More, Err, Left -/
set_option maxHeartbeats 1000000 in
theorem new_any (A : Option Addr) (c : Nat) (bs : List Int) (w : World) (hC : Kd.C (Kd.int .u8) w A bs.length bs) (hc : bs.length ≤ c) (hA : ∀ ad, A = some ad → ad.block < w.heap.size) (hr : ∀ b ∈ bs, 0 ≤ b ∧ b ≤ 255) (hM : Marked w A bs.length) :
    Calls Tryd.prog 23 #[.slice A bs.length c] w fun e w' => e = .returned (.pointer (some ⟨w.heap.size, 0, none⟩)) ∧ RdAt w' w.heap.size bs 0 ∧ Below w.heap.size w w' := by
  have HC := Aside0.mk hC
  have HA := Aside0.mk hA
  have HR := Aside0.mk hr
  have HCC := Aside0.mk hc
  have HM := Aside0.mk (hM.below ((Below.refl _ _).alloc (Nat.le_refl _) (.cells #[.slice A bs.length c, .int .i64 0] 61 (0, 0))))
  clear hC hA hr hc hM
  obtain ⟨n, hn⟩ : ∃ n, n = bs.length := ⟨_, rfl⟩
  have HN := Aside0.mk hn
  rw [← hn]
  clear hn
  go_enter Tryd.func23, Tryd.ntmps23
  go_wp2
  go_ret
  obtain rfl := HN.out
  refine ⟨rfl, ⟨A, c, heap_alloc_new w _, Kd.C_below HC.out ((Below.refl _ _).alloc (Nat.le_refl _) _), HCC.out, fun ad had e => ?_, HR.out, HM.out⟩, (Below.refl _ _).alloc (Nat.le_refl _) _⟩
  have := HA.out ad had
  omega
def moreF : List Int → Bool
  | [] => false
  | b :: _ => b != 101
set_option maxHeartbeats 1000000 in
theorem more_any (g : Nat) (bs : List Int) (e : Int) (w : World) (h : RdAt w g bs e) :
    Calls Tryd.prog 25 #[.pointer (some ⟨g, 0, none⟩)] w fun en w' => en = .returned (.bool (moreF bs)) ∧ w' = w := by
  obtain ⟨A, c, hb, hC, hc, hf, hr, hM⟩ := h
  have h0 := blk_cell hb 0
  cases bs with
  | nil =>
    have h0' : w.cell? ⟨g, 0, none⟩ = some (.slice A 0 c) := h0
    clear hb hC hc hf hr hM h0
    go_enter Tryd.func25, Tryd.ntmps25
    go_wp2
    go_ret
    exact ⟨rfl, rfl⟩
  | cons b t =>
    obtain ⟨ad, k, rfl, hk, hK, hcell⟩ := Kd.C_get hC (0 : Int) 0 (by omega) (by simp only [List.length_cons]; omega)
    have hcb : w.cell? ad = some (.int .u8 b) := by
      have hk2 : k = [.int .u8 b] := hK
      have := hcell 0 (.int .u8 b) (by rw [hk2]; rfl)
      simpa [Addr.add] using this
    have h0' : w.cell? ⟨g, 0, none⟩ = some (.slice (some ad) (t.length + 1) c) := h0
    have hp : decide (0 < t.length + 1) = true := by simp
    have hp2 : decide ((0 : Int) < (t.length : Int) + 1) = true := by simp
    have hp3 : decide ((t.length : Int) + 1 > 0) = true := by simp
    clear hb hC hc hf hr hM h0 hK hcell hk
    go_enter Tryd.func25, Tryd.ntmps25
    go_wp2
    go_ret
    exact ⟨rfl, rfl⟩
theorem err_any (g : Nat) (bs : List Int) (e : Int) (w : World) (h : RdAt w g bs e) :
    Calls Tryd.prog 28 #[.pointer (some ⟨g, 0, none⟩)] w fun en w' => en = .returned (.int .i64 e) ∧ w' = w := by
  obtain ⟨A, c, hb, _⟩ := h
  have h1 : w.cell? ⟨g, 1, none⟩ = some (.int .i64 e) := (blk_cell hb 1).trans rfl
  clear hb
  go_enter Tryd.func28, Tryd.ntmps28
  go_wp2
  go_ret
  exact ⟨rfl, rfl⟩
theorem left_any (g : Nat) (bs : List Int) (e : Int) (w : World) (h : RdAt w g bs e) :
    Calls Tryd.prog 30 #[.pointer (some ⟨g, 0, none⟩)] w fun en w' => en = .returned (.int .i64 bs.length) ∧ w' = w := by
  obtain ⟨A, c, hb, _⟩ := h
  have h1 : w.cell? ⟨g, 0, none⟩ = some (.slice A bs.length c) := (blk_cell hb 0).trans rfl
  clear hb
  go_enter Tryd.func30, Tryd.ntmps30
  go_wp2
  go_ret
  exact ⟨rfl, rfl⟩
/-! ### fail, first, skip -/
theorem fail_any (g : Nat) (bs : List Int) (e x : Int) (w : World) (h : RdAt w g bs e) :
    Calls Tryd.prog 41 #[.pointer (some ⟨g, 0, none⟩), .int .i64 x] w fun en w' => en = .returned (.tuple #[]) ∧ RdAt w' g [] x ∧ Fr w w' g := by
  obtain ⟨A, c, hb, _⟩ := h
  have h0 : w.cell? ⟨g, 0, none⟩ = some (.slice A bs.length c) := (blk_cell hb 0).trans rfl
  have h1 : w.cell? ⟨g, 1, none⟩ = some (.int .i64 e) := (blk_cell hb 1).trans rfl
  have f0 : w.frozen? ⟨g, 0, none⟩ = false := blk_frozen hb 0
  have f1 : w.frozen? ⟨g, 1, none⟩ = false := blk_frozen hb 1
  have HB := Aside0.mk hb
  clear hb
  go_enter Tryd.func41, Tryd.ntmps41
  go_wp2
  go_end0
  refine ⟨rfl, ⟨none, 0, two_set1 (two_set HB.out _) _, Kd.C_nil _ _, Nat.le_refl _, fun ad h => (by cases h), fun b hb => (by cases hb), Marked.nil _ _⟩, ?_⟩
  exact (Fr.set _ _ _ _).trans (Fr.set _ _ _ _)
theorem first_err (g : Nat) (bs : List Int) (e : Int) (w : World) (h : RdAt w g bs e) (he : e ≠ 0) :
    Calls Tryd.prog 40 #[.pointer (some ⟨g, 0, none⟩)] w fun en w' => en = .returned (.tuple #[.int .u8 0, .bool false]) ∧ w' = w := by
  obtain ⟨A, c, hb, _⟩ := h
  have h1 : w.cell? ⟨g, 1, none⟩ = some (.int .i64 e) := (blk_cell hb 1).trans rfl
  have hne : (e != 0) = true := bne_iff_ne.2 he
  clear hb he
  go_enter Tryd.func40, Tryd.ntmps40
  go_wp2
  go_ret2
  exact ⟨rfl, rfl⟩
theorem first_end (g : Nat) (w : World) (h : RdAt w g [] 0) :
    Calls Tryd.prog 40 #[.pointer (some ⟨g, 0, none⟩)] w fun en w' => en = .returned (.tuple #[.int .u8 0, .bool false]) ∧ RdAt w' g [] 3 ∧ Fr w w' g := by
  have H := Aside0.mk h
  obtain ⟨A, c, hb, _⟩ := h
  have h0 : w.cell? ⟨g, 0, none⟩ = some (.slice A 0 c) := (blk_cell hb 0).trans rfl
  have h1 : w.cell? ⟨g, 1, none⟩ = some (.int .i64 0) := (blk_cell hb 1).trans rfl
  clear hb
  go_enter Tryd.func40, Tryd.ntmps40
  go_wp2_with (fail)
  refine (fail_any g [] 0 3 _ H.out).mono ?_
  rintro en w1 ⟨rfl, hr, hf⟩
  clear h0 h1
  go_wp2_with (fail)
  go_ret2
  exact ⟨rfl, hr, hf⟩
theorem head_cell {w : World} {A : Option Addr} {b : Int} {t : List Int} (hC : Kd.C (Kd.int .u8) w A (b :: t).length (b :: t)) : ∃ ad, A = some ad ∧ w.cell? ad = some (.int .u8 b) := by
  obtain ⟨ad, k, rfl, hk, hK, hcell⟩ := Kd.C_get hC (0 : Int) 0 (by omega) (by simp only [List.length_cons]; omega)
  have hk2 : k = [.int .u8 b] := hK
  have := hcell 0 (.int .u8 b) (by rw [hk2]; rfl)
  exact ⟨ad, rfl, by simpa [Addr.add] using this⟩
theorem first_some (g : Nat) (b : Int) (t : List Int) (w : World) (h : RdAt w g (b :: t) 0) :
    Calls Tryd.prog 40 #[.pointer (some ⟨g, 0, none⟩)] w fun en w' => en = .returned (.tuple #[.int .u8 b, .bool true]) ∧ w' = w := by
  obtain ⟨A, c, hb, hC, hc, hf, hr, hM⟩ := h
  obtain ⟨ad, rfl, hcb⟩ := head_cell hC
  have h0 : w.cell? ⟨g, 0, none⟩ = some (.slice (some ad) (t.length + 1) c) := (blk_cell hb 0).trans rfl
  have h1 : w.cell? ⟨g, 1, none⟩ = some (.int .i64 0) := (blk_cell hb 1).trans rfl
  have hp : decide (0 < t.length + 1) = true := by simp
  have hz : ((t.length : Int) + 1 == 0) = false := by rw [beq_eq_false_iff_ne]; omega
  clear hb hC hc hf hr hM
  go_enter Tryd.func40, Tryd.ntmps40
  go_wp2
  go_ret2
  exact ⟨rfl, rfl⟩
/-- What skip leaves. -/
def skipF (want : Int) (bs : List Int) (e : Int) : List Int × Int :=
  if e ≠ 0 then (bs, e) else match bs with
    | [] => ([], 3)
    | b :: t => if b = want then (t, 0) else ([], 4)
set_option maxHeartbeats 1000000 in
theorem skip_any (g : Nat) (want : Int) (bs : List Int) (e : Int) (w : World) (h : RdAt w g bs e) :
    Calls Tryd.prog 39 #[.pointer (some ⟨g, 0, none⟩), .int .u8 want] w fun en w' => en = .returned (.tuple #[]) ∧ RdAt w' g (skipF want bs e).1 (skipF want bs e).2 ∧ Fr w w' g := by
  have H := Aside0.mk h
  by_cases he : e = 0
  · subst he
    cases bs with
    | nil =>
      clear h
      go_enter Tryd.func39, Tryd.ntmps39
      go_wp2_with (fail)
      refine (first_end g _ H.out).mono ?_
      rintro en w1 ⟨rfl, hr, hf⟩
      have HR := Aside0.mk hr
      have HF := Aside0.mk hf
      clear hr hf
      go_wp2_with (fail)
      go_end0
      exact ⟨rfl, HR.out, HF.out⟩
    | cons b t =>
      have HF := Aside0.mk (first_some g b t w h)
      by_cases hw : b = want
      · subst hw
        obtain ⟨A, c, hb, hC, hc, hf, hr, hM⟩ := h
        obtain ⟨ad, rfl, _⟩ := head_cell hC
        have h0 : w.cell? ⟨g, 0, none⟩ = some (.slice (some ad) (t.length + 1) c) := (blk_cell hb 0).trans rfl
        have f0 : w.frozen? ⟨g, 0, none⟩ = false := blk_frozen hb 0
        obtain ⟨A', hA', hrun⟩ := cut_bytes (some ad) (t.length + 1) c 1 (by omega)
        have HCUT := Aside0.mk (RdAt.cut hb hC hc hf hr hM 1 (by simp only [List.length_cons]; omega) A' hA')
        simp only [Int.natCast_one, Nat.add_sub_cancel] at hrun
        have hbb : (b != b) = false := by simp
        clear hb hC hc hf hr hA' hM
        go_enter Tryd.func39, Tryd.ntmps39
        go_wp2_with (fail)
        refine HF.out.mono ?_
        rintro en w1 ⟨rfl, rfl⟩
        go_wp2_with (fail)
        go_end0
        unfold skipF
        rw [if_neg (by simp)]
        simp only [if_pos]
        exact ⟨by trivial, HCUT.out, Fr.set _ _ _ _⟩
      · have hbw : (b != want) = true := bne_iff_ne.2 hw
        clear h
        go_enter Tryd.func39, Tryd.ntmps39
        go_wp2_with (fail)
        refine HF.out.mono ?_
        rintro en w1 ⟨rfl, rfl⟩
        go_wp2_with (fail)
        refine (fail_any g (b :: t) 0 4 _ H.out).mono ?_
        rintro en w2 ⟨rfl, hr, hf⟩
        have HR := Aside0.mk hr
        have HF2 := Aside0.mk hf
        have HW := Aside0.mk hw
        clear hr hf hw hbw
        go_wp2_with (fail)
        go_end0
        unfold skipF
        rw [if_neg (by simp)]
        simp only [if_neg HW.out]
        exact ⟨by trivial, HR.out, HF2.out⟩
  · have HF := Aside0.mk (first_err g bs e w h he)
    have HE := Aside0.mk he
    clear h he
    go_enter Tryd.func39, Tryd.ntmps39
    go_wp2_with (fail)
    refine HF.out.mono ?_
    rintro en w1 ⟨rfl, rfl⟩
    go_wp2_with (fail)
    go_end0
    unfold skipF
    rw [if_pos HE.out]
    exact ⟨rfl, H.out, Fr.refl _ _⟩
/-! ### numerals -/
/-- The number that a text is the numeral of, if it is one. -/
def numOf (s : ByteArray) : Option Int := match Lib.parseIntB 64 s.data.toList with
  | .ok v => if (⟨(Lib.itoa v).toArray⟩ : ByteArray) = s then some v else none
  | _ => none
theorem parse_any (s : ByteArray) (hs : s.size ≤ 140737488351232) (w : World) (hT : TabE w) :
    Calls Tryd.prog 48 #[.string s, .int .i64 10, .int .i64 64] w fun en w' => Below w.heap.size w w' ∧
      ((∃ v : Int, Lib.parseIntB 64 s.data.toList = .ok v ∧ en = .returned (.tuple #[.int .i64 v, .nilIface])) ∨
       ((∀ v : Int, Lib.parseIntB 64 s.data.toList ≠ .ok v) ∧ ∃ (v : Int) (t : TypeId) (p : Value), en = .returned (.tuple #[.int .i64 v, .iface t p]))) := by
  have hl : s.size ≤ 281474976710656 := by omega
  obtain ⟨_, ⟨tp, p, h1⟩, ⟨tq, q, h2⟩⟩ := hT
  rcases hp : Lib.parseIntB 64 s.data.toList with v | _ | _
  · refine (Tryd.strconv_ParseInt_10_at64_ok s (by omega) v hp w).mono fun en w' ⟨he, hw⟩ => ⟨?_, .inl ⟨v, rfl, he⟩⟩
    rcases hw with rfl | ⟨t, rfl⟩
    · exact Below.refl _ _
    · exact Lib.bytesWorld_below w 5 t
  · refine (Any.strconv_ParseInt_10_at64_syntax_var Tryd.laysC174 s hl hp tp p w h1).mono fun en w' ⟨N, he, _, _, hw⟩ => ⟨hw, .inr ⟨(fun v h => by cases h), _, _, _, he⟩⟩
  · refine (Any.strconv_ParseInt_10_at64_range_var Tryd.laysC174 s hl hp tq q w h2).mono fun en w' ⟨N, he, _, _, hw⟩ => ⟨hw, .inr ⟨(fun v h => by cases h), _, _, _, he⟩⟩
theorem format_any (n : Int) (h0 : -9223372036854775808 ≤ n) (h1 : n ≤ 9223372036854775807) (w : World) (hT : TabE w) :
    Calls Tryd.prog 49 #[.int .i64 n, .int .i64 10] w fun en w' => en = .returned (.string ⟨(Lib.itoa n).toArray⟩) ∧ Below w.heap.size w w' := by
  refine (Tryd.strconv_FormatInt_10 n h0 h1 w hT.tab.pow).mono fun en w' ⟨he, k, os, hw⟩ => ⟨he, ?_⟩
  rw [hw]
  exact Lib.below_grow _ _ (Nat.le_refl _) _ _
end Go.Proofs.YtpbemhjiffnamaaDoor.RD
