/- The reader of bytes (ben.Reader): what its calls do to it, as plain Lean functions, each with its contract. -/
import Derived.Test.YtjgommaikaeobaaGreatDoorKB
import Derived.Test.YtjgommaikaeobaaGreatDoorTabS
import Derived.Test.YtjgommaikaeobaaGreatDoorLayB
import Derived.Shelf.Strconv.ErrVarParseInt
import Derived.Deep.QuietTactic
import Derived.BigQuiet
set_option linter.unusedVariables false
set_option linter.unusedSimpArgs false
namespace Go.Proofs.YtjgommaikaeobaaGreatDoor.RD
open Go.RowKit Go.Shelf Go.Lib Go.Proofs.YtjgommaikaeobaaGreatDoorW.PrintWords Go.Proofs.YtjgommaikaeobaaGreatDoor.G Go.Proofs.YtjgommaikaeobaaGreatDoor.P

/-! ### what stays -/
/-- All but block g is as it was; what is new lies above. -/
def Fr (w w' : World) (g : Nat) : Prop := Below g w w' ∧ KeepBut w w' g none
theorem Fr.refl (w : World) (g : Nat) : Fr w w g := ⟨Below.refl _ _, KeepBut.refl _ _ _⟩
theorem Fr.trans {w w1 w2 : World} {g : Nat} (h : Fr w w1 g) (k : Fr w1 w2 g) : Fr w w2 g := ⟨h.1.trans k.1, h.2.trans k.2 (.inl rfl)⟩
theorem Fr.of_below {w w1 : World} {g : Nat} (h : Below w.heap.size w w1) (hg : g < w.heap.size) : Fr w w1 g := ⟨⟨h.os, h.tape, h.output, h.size, fun i hi => h.block i (by omega)⟩, KeepBut.of_below h g none⟩
theorem Fr.set (w : World) (g j : Nat) (u : Value) : Fr w (w.setCell ⟨g, j, none⟩ u) g :=
  ⟨(Below.refl g w).setCell (p := ⟨g, j, none⟩) (Nat.le_refl _) u, (KeepBut.refl w g none).set_ j u⟩
theorem Fr.below {w0 w w' : World} {g : Nat} (h : Fr w w' g) (hb : Below w0.heap.size w0 w) (hg : w0.heap.size ≤ g) : Below w0.heap.size w0 w' :=
  hb.trans ⟨h.1.os, h.1.tape, h.1.output, h.1.size, fun i hi => h.1.block i (by omega)⟩
/-! ### the reader -/
/-- The bytes lie where a conversion has laid them: in no row that may be written. -/
def Marked (w : World) (A : Option Addr) (n : Nat) : Prop := ∀ ad, A = some ad → 0 < n → ∃ cells t fr, w.heap[ad.block]? = some (.cells cells t fr) ∧ fr ≠ (0, 0)
theorem Marked.below {w w' : World} {A : Option Addr} {n : Nat} (h : Marked w A n) (hw : Below w.heap.size w w') : Marked w' A n := fun ad ha hn => by
  obtain ⟨cells, t, fr, hb, hf⟩ := h ad ha hn
  exact ⟨cells, t, fr, (hw.block _ (blk_lt hb)).trans hb, hf⟩
theorem Marked.set {w : World} {A : Option Addr} {n g j : Nat} {u : Value} (h : Marked w A n) (hf : ∀ ad, A = some ad → ad.block ≠ g) : Marked (w.setCell ⟨g, j, none⟩ u) A n := fun ad ha hn => by
  obtain ⟨cells, t, fr, hb, hfr⟩ := h ad ha hn
  exact ⟨cells, t, fr, (Below.heap_setCell w ⟨g, j, none⟩ u ad.block (hf ad ha)).trans hb, hfr⟩
theorem Marked.nil (w : World) (A : Option Addr) : Marked w A 0 := fun _ _ h => absurd h (by omega)
def RdAt (w : World) (g : Nat) (bs : List Int) (e : Int) : Prop :=
  ∃ A c, w.heap[g]? = some (.cells #[.slice A bs.length c, .int .i64 e] 54 (0, 0)) ∧ Kd.C (Kd.int .u8) w A bs.length bs ∧ bs.length ≤ c ∧ (∀ ad, A = some ad → ad.block ≠ g) ∧ (∀ b ∈ bs, 0 ≤ b ∧ b ≤ 255) ∧ Marked w A bs.length
theorem RdAt.lt {w : World} {g : Nat} {bs : List Int} {e : Int} (h : RdAt w g bs e) : g < w.heap.size := by
  obtain ⟨A, c, hb, _⟩ := h
  exact blk_lt hb
theorem RdAt.below {w w' : World} {g : Nat} {bs : List Int} {e : Int} (h : RdAt w g bs e) (hw : Below w.heap.size w w') : RdAt w' g bs e := by
  obtain ⟨A, c, hb, hC, r1, r2, r3, r4⟩ := h
  exact ⟨A, c, (hw.block g (blk_lt hb)).trans hb, Kd.C_below hC hw, r1, r2, r3, r4.below hw⟩
theorem RdAt.drewN {w : World} {g : Nat} {bs : List Int} {e : Int} (h : RdAt w g bs e) (n : Nat) : RdAt (w.drewN n) g bs e := h
theorem C_far {w : World} {A : Option Addr} {n g : Nat} {xs : List Int} (h : Kd.C (Kd.int .u8) w A n xs) (hf : ∀ ad, A = some ad → ad.block ≠ g) (j : Nat) (u : Value) : Kd.C (Kd.int .u8) (w.setCell ⟨g, j, none⟩ u) A n xs :=
  Kd.C_keep (0 : Int) h ((KeepBut.refl w g none).set_ j u) (fun ad ha _ => hf ad ha)
theorem two_set {w : World} {g : Nat} {a b : Value} {t : TypeId} (h : w.heap[g]? = some (.cells #[a, b] t (0, 0))) (u : Value) : (w.setCell ⟨g, 0, none⟩ u).heap[g]? = some (.cells #[u, b] t (0, 0)) := by
  have := blk_set h 0 u
  simpa using this
theorem two_set1 {w : World} {g : Nat} {a b : Value} {t : TypeId} (h : w.heap[g]? = some (.cells #[a, b] t (0, 0))) (u : Value) : (w.setCell ⟨g, 1, none⟩ u).heap[g]? = some (.cells #[a, u] t (0, 0)) := by
  have := blk_set h 1 u
  simpa using this
/-- The bytes are cut from the front. -/
theorem RdAt.cut {w : World} {g : Nat} {bs : List Int} {e : Int} {A : Option Addr} {c : Nat} (hb : w.heap[g]? = some (.cells #[.slice A bs.length c, .int .i64 e] 54 (0, 0))) (hC : Kd.C (Kd.int .u8) w A bs.length bs) (hc : bs.length ≤ c) (hf : ∀ ad, A = some ad → ad.block ≠ g) (hr : ∀ b ∈ bs, 0 ≤ b ∧ b ≤ 255) (hM : Marked w A bs.length) (m : Nat) (hm : m ≤ bs.length)
    (A' : Option Addr) (hA : A' = if c = m then A else A.map (·.add m)) : RdAt (w.setCell ⟨g, 0, none⟩ (.slice A' (bs.length - m) (c - m))) g (bs.drop m) e := by
  have hblk : ∀ ad, A' = some ad → ∃ a0, A = some a0 ∧ ad.block = a0.block := fun ad had => by
    rw [hA] at had
    split at had
    · exact ⟨ad, had, rfl⟩
    · obtain ⟨a0, ha0, rfl⟩ := Option.map_eq_some_iff.1 had
      refine ⟨a0, ha0, ?_⟩
      unfold Addr.add
      split <;> rfl
  refine ⟨A', c - m, ?_, ?_, ?_, ?_, fun b hbm => hr b (List.mem_of_mem_drop hbm), fun ad had hn => ?_⟩
  · rw [List.length_drop]
    exact two_set hb _
  · have h1 := Kd.C_drop hC hm hc
    rw [show m * (Kd.int .u8).sz = m from Nat.mul_one m, ← hA] at h1
    refine C_far h1 ?_ 0 _
    rw [hA]
    intro ad had
    split at had
    · exact hf ad had
    · obtain ⟨a0, ha0, rfl⟩ := Option.map_eq_some_iff.1 had
      have := hf a0 ha0
      unfold Addr.add
      split <;> exact this
  · rw [List.length_drop]; omega
  · intro ad had
    obtain ⟨a0, ha0, e⟩ := hblk ad had
    rw [e]; exact hf a0 ha0
  · obtain ⟨a0, ha0, e⟩ := hblk ad had
    rw [List.length_drop] at hn
    rw [e]
    exact Marked.set hM hf a0 ha0 (by omega)

theorem cut_bytes (A : Option Addr) (n c m : Nat) (hm : m ≤ n) : ∃ A' : Option Addr, (A' = if c = m then A else A.map (·.add m)) ∧
    ∀ W : World, (Instr.slice 34 (.slice A n c) (some (.int .i64 (m : Int))) none none).run Tryz.prog W = .ok (.slice A' (n - m) (c - m)) W := by
  refine ⟨_, rfl, fun W => ?_⟩
  have hz : (Tryz.prog.info? 5).map (fun i => i.size) = some 1 := by kernel_rfl
  obtain ⟨i, hi, hsz⟩ := Option.map_eq_some_iff.1 hz
  have hel : Tryz.prog.elem 34 = 5 := by simp [Program.elem, Tryz.underlying34]
  have hu : Tryz.prog.underlying 34 = some (.slice (Tryz.prog.elem 34)) := by rw [hel]; exact Tryz.underlying34
  rw [run_slice_l W 34 A n c hu .i64 (m : Int) (Int.natCast_nonneg _) (by omega), hel]
  simp [sizeOf, typeInfo, hi, hsz, sliced, Result.andThen]
/-- Another row is written: the reader stays. -/
theorem RdAt.grown {w w' : World} {g : Nat} {bs : List Int} {e : Int} (h : RdAt w g bs e) {row : Option Nat} (hg : w.grownBy w' row) (hne : some g ≠ row) (hrow : ∀ k, row = some k → ∃ cells t, w.heap[k]? = some (.cells cells t (0, 0))) : RdAt w' g bs e := by
  obtain ⟨A, c, hb, hC, hc, hf, hr, hM⟩ := h
  have hblk : ∀ ad, A = some ad → 0 < bs.length → w'.heap[ad.block]? = w.heap[ad.block]? := fun ad ha hn => by
    obtain ⟨cells, t, fr, hb2, hfr⟩ := hM ad ha hn
    refine hg.block _ (blk_lt hb2) (fun e2 => ?_)
    obtain ⟨cells', t', hb3⟩ := hrow _ e2.symm
    rw [hb2] at hb3
    injection hb3 with hb3
    injection hb3 with _ _ h3
    exact hfr h3
  refine ⟨A, c, blk_grown hb hg hne, ?_, hc, hf, hr, fun ad ha hn => ?_⟩
  · refine ⟨hC.1, hC.2.1, fun hn => ?_⟩
    obtain ⟨ad, ha, hcs⟩ := hC.2.2 hn
    refine ⟨ad, ha, fun j p hj => ?_⟩
    obtain ⟨cs, h1, h2, h3⟩ := hcs j p hj
    refine ⟨cs, h1, h2, fun i u hu => ?_⟩
    have h4 := h3 i u hu
    have e1 : ∀ m : Nat, (ad.add m).block = ad.block := fun m => by unfold Addr.add; split <;> rfl
    unfold World.cell? at h4 ⊢
    rw [e1, hblk ad ha (by omega)]
    rw [e1] at h4
    exact h4
  · obtain ⟨cells, t, fr, hb2, hfr⟩ := hM ad ha hn
    exact ⟨cells, t, fr, (hblk ad ha hn).trans hb2, hfr⟩
/-! ### New, More, Err, Left -/
set_option maxHeartbeats 1000000 in
theorem new_any (A : Option Addr) (c : Nat) (bs : List Int) (w : World) (hC : Kd.C (Kd.int .u8) w A bs.length bs) (hc : bs.length ≤ c) (hA : ∀ ad, A = some ad → ad.block < w.heap.size) (hr : ∀ b ∈ bs, 0 ≤ b ∧ b ≤ 255) (hM : Marked w A bs.length) :
    Calls Tryz.prog 11 #[.slice A bs.length c] w fun e w' => e = .returned (.pointer (some ⟨w.heap.size, 0, none⟩)) ∧ RdAt w' w.heap.size bs 0 ∧ Below w.heap.size w w' := by
  have HC := Aside0.mk hC
  have HA := Aside0.mk hA
  have HR := Aside0.mk hr
  have HCC := Aside0.mk hc
  have HM := Aside0.mk (hM.below ((Below.refl _ _).alloc (Nat.le_refl _) (.cells #[.slice A bs.length c, .int .i64 0] 54 (0, 0))))
  clear hC hA hr hc hM
  obtain ⟨n, hn⟩ : ∃ n, n = bs.length := ⟨_, rfl⟩
  have HN := Aside0.mk hn
  rw [← hn]
  clear hn
  go_enter Tryz.func11, Tryz.ntmps11
  go_wp2
  go_ret
  obtain rfl := HN.out
  refine ⟨rfl, ⟨A, c, heap_alloc_new w _, Kd.C_below HC.out ((Below.refl _ _).alloc (Nat.le_refl _) _), HCC.out, fun ad had e => ?_, HR.out, HM.out⟩, (Below.refl _ _).alloc (Nat.le_refl _) _⟩
  have := HA.out ad had
  omega
def moreF : List Int → Bool
  | [] => false
  | b :: _ => b != 101
set_option maxHeartbeats 1000000 in
theorem more_any (g : Nat) (bs : List Int) (e : Int) (w : World) (h : RdAt w g bs e) :
    Calls Tryz.prog 13 #[.pointer (some ⟨g, 0, none⟩)] w fun en w' => en = .returned (.bool (moreF bs)) ∧ w' = w := by
  obtain ⟨A, c, hb, hC, hc, hf, hr, hM⟩ := h
  have h0 := blk_cell hb 0
  cases bs with
  | nil =>
    have h0' : w.cell? ⟨g, 0, none⟩ = some (.slice A 0 c) := h0
    clear hb hC hc hf hr hM h0
    go_enter Tryz.func13, Tryz.ntmps13
    go_wp2
    go_ret
    exact ⟨rfl, rfl⟩
  | cons b t =>
    obtain ⟨ad, k, rfl, hk, hK, hcell⟩ := Kd.C_get hC (0 : Int) 0 (by omega) (by simp only [List.length_cons]; omega)
    have hcb : w.cell? ad = some (.int .u8 b) := by
      have hk2 : k = [.int .u8 b] := hK
      have := hcell 0 (.int .u8 b) (by rw [hk2]; rfl)
      simpa [Addr.add] using this
    have h0' : w.cell? ⟨g, 0, none⟩ = some (.slice (some ad) (t.length + 1) c) := h0
    have hp : decide (0 < t.length + 1) = true := by simp
    have hp2 : decide ((0 : Int) < (t.length : Int) + 1) = true := by simp
    have hp3 : decide ((t.length : Int) + 1 > 0) = true := by simp
    clear hb hC hc hf hr hM h0 hK hcell hk
    go_enter Tryz.func13, Tryz.ntmps13
    go_wp2
    go_ret
    exact ⟨rfl, rfl⟩
theorem err_any (g : Nat) (bs : List Int) (e : Int) (w : World) (h : RdAt w g bs e) :
    Calls Tryz.prog 16 #[.pointer (some ⟨g, 0, none⟩)] w fun en w' => en = .returned (.int .i64 e) ∧ w' = w := by
  obtain ⟨A, c, hb, _⟩ := h
  have h1 : w.cell? ⟨g, 1, none⟩ = some (.int .i64 e) := (blk_cell hb 1).trans rfl
  clear hb
  go_enter Tryz.func16, Tryz.ntmps16
  go_wp2
  go_ret
  exact ⟨rfl, rfl⟩
theorem left_any (g : Nat) (bs : List Int) (e : Int) (w : World) (h : RdAt w g bs e) :
    Calls Tryz.prog 17 #[.pointer (some ⟨g, 0, none⟩)] w fun en w' => en = .returned (.int .i64 bs.length) ∧ w' = w := by
  obtain ⟨A, c, hb, _⟩ := h
  have h1 : w.cell? ⟨g, 0, none⟩ = some (.slice A bs.length c) := (blk_cell hb 0).trans rfl
  clear hb
  go_enter Tryz.func17, Tryz.ntmps17
  go_wp2
  go_ret
  exact ⟨rfl, rfl⟩
/-! ### fail, first, skip -/
theorem fail_any (g : Nat) (bs : List Int) (e x : Int) (w : World) (h : RdAt w g bs e) :
    Calls Tryz.prog 32 #[.pointer (some ⟨g, 0, none⟩), .int .i64 x] w fun en w' => en = .returned (.tuple #[]) ∧ RdAt w' g [] x ∧ Fr w w' g := by
  obtain ⟨A, c, hb, _⟩ := h
  have h0 : w.cell? ⟨g, 0, none⟩ = some (.slice A bs.length c) := (blk_cell hb 0).trans rfl
  have h1 : w.cell? ⟨g, 1, none⟩ = some (.int .i64 e) := (blk_cell hb 1).trans rfl
  have f0 : w.frozen? ⟨g, 0, none⟩ = false := blk_frozen hb 0
  have f1 : w.frozen? ⟨g, 1, none⟩ = false := blk_frozen hb 1
  have HB := Aside0.mk hb
  clear hb
  go_enter Tryz.func32, Tryz.ntmps32
  go_wp2
  go_end0
  refine ⟨rfl, ⟨none, 0, two_set1 (two_set HB.out _) _, Kd.C_nil _ _, Nat.le_refl _, fun ad h => (by cases h), fun b hb => (by cases hb), Marked.nil _ _⟩, ?_⟩
  exact (Fr.set _ _ _ _).trans (Fr.set _ _ _ _)
theorem first_err (g : Nat) (bs : List Int) (e : Int) (w : World) (h : RdAt w g bs e) (he : e ≠ 0) :
    Calls Tryz.prog 31 #[.pointer (some ⟨g, 0, none⟩)] w fun en w' => en = .returned (.tuple #[.int .u8 0, .bool false]) ∧ w' = w := by
  obtain ⟨A, c, hb, _⟩ := h
  have h1 : w.cell? ⟨g, 1, none⟩ = some (.int .i64 e) := (blk_cell hb 1).trans rfl
  have hne : (e != 0) = true := bne_iff_ne.2 he
  clear hb he
  go_enter Tryz.func31, Tryz.ntmps31
  go_wp2
  go_ret2
  exact ⟨rfl, rfl⟩
theorem first_end (g : Nat) (w : World) (h : RdAt w g [] 0) :
    Calls Tryz.prog 31 #[.pointer (some ⟨g, 0, none⟩)] w fun en w' => en = .returned (.tuple #[.int .u8 0, .bool false]) ∧ RdAt w' g [] 3 ∧ Fr w w' g := by
  have H := Aside0.mk h
  obtain ⟨A, c, hb, _⟩ := h
  have h0 : w.cell? ⟨g, 0, none⟩ = some (.slice A 0 c) := (blk_cell hb 0).trans rfl
  have h1 : w.cell? ⟨g, 1, none⟩ = some (.int .i64 0) := (blk_cell hb 1).trans rfl
  clear hb
  go_enter Tryz.func31, Tryz.ntmps31
  go_wp2_with (fail)
  refine (fail_any g [] 0 3 _ H.out).mono ?_
  rintro en w1 ⟨rfl, hr, hf⟩
  clear h0 h1
  go_wp2_with (fail)
  go_ret2
  exact ⟨rfl, hr, hf⟩
theorem head_cell {w : World} {A : Option Addr} {b : Int} {t : List Int} (hC : Kd.C (Kd.int .u8) w A (b :: t).length (b :: t)) : ∃ ad, A = some ad ∧ w.cell? ad = some (.int .u8 b) := by
  obtain ⟨ad, k, rfl, hk, hK, hcell⟩ := Kd.C_get hC (0 : Int) 0 (by omega) (by simp only [List.length_cons]; omega)
  have hk2 : k = [.int .u8 b] := hK
  have := hcell 0 (.int .u8 b) (by rw [hk2]; rfl)
  exact ⟨ad, rfl, by simpa [Addr.add] using this⟩
theorem first_some (g : Nat) (b : Int) (t : List Int) (w : World) (h : RdAt w g (b :: t) 0) :
    Calls Tryz.prog 31 #[.pointer (some ⟨g, 0, none⟩)] w fun en w' => en = .returned (.tuple #[.int .u8 b, .bool true]) ∧ w' = w := by
  obtain ⟨A, c, hb, hC, hc, hf, hr, hM⟩ := h
  obtain ⟨ad, rfl, hcb⟩ := head_cell hC
  have h0 : w.cell? ⟨g, 0, none⟩ = some (.slice (some ad) (t.length + 1) c) := (blk_cell hb 0).trans rfl
  have h1 : w.cell? ⟨g, 1, none⟩ = some (.int .i64 0) := (blk_cell hb 1).trans rfl
  have hp : decide (0 < t.length + 1) = true := by simp
  have hz : ((t.length : Int) + 1 == 0) = false := by rw [beq_eq_false_iff_ne]; omega
  clear hb hC hc hf hr hM
  go_enter Tryz.func31, Tryz.ntmps31
  go_wp2
  go_ret2
  exact ⟨rfl, rfl⟩
/-- What skip leaves. -/
def skipF (want : Int) (bs : List Int) (e : Int) : List Int × Int :=
  if e ≠ 0 then (bs, e) else match bs with
    | [] => ([], 3)
    | b :: t => if b = want then (t, 0) else ([], 4)
set_option maxHeartbeats 1000000 in
theorem skip_any (g : Nat) (want : Int) (bs : List Int) (e : Int) (w : World) (h : RdAt w g bs e) :
    Calls Tryz.prog 30 #[.pointer (some ⟨g, 0, none⟩), .int .u8 want] w fun en w' => en = .returned (.tuple #[]) ∧ RdAt w' g (skipF want bs e).1 (skipF want bs e).2 ∧ Fr w w' g := by
  have H := Aside0.mk h
  by_cases he : e = 0
  · subst he
    cases bs with
    | nil =>
      clear h
      go_enter Tryz.func30, Tryz.ntmps30
      go_wp2_with (fail)
      refine (first_end g _ H.out).mono ?_
      rintro en w1 ⟨rfl, hr, hf⟩
      have HR := Aside0.mk hr
      have HF := Aside0.mk hf
      clear hr hf
      go_wp2_with (fail)
      go_end0
      exact ⟨rfl, HR.out, HF.out⟩
    | cons b t =>
      have HF := Aside0.mk (first_some g b t w h)
      by_cases hw : b = want
      · subst hw
        obtain ⟨A, c, hb, hC, hc, hf, hr, hM⟩ := h
        obtain ⟨ad, rfl, _⟩ := head_cell hC
        have h0 : w.cell? ⟨g, 0, none⟩ = some (.slice (some ad) (t.length + 1) c) := (blk_cell hb 0).trans rfl
        have f0 : w.frozen? ⟨g, 0, none⟩ = false := blk_frozen hb 0
        obtain ⟨A', hA', hrun⟩ := cut_bytes (some ad) (t.length + 1) c 1 (by omega)
        have HCUT := Aside0.mk (RdAt.cut hb hC hc hf hr hM 1 (by simp only [List.length_cons]; omega) A' hA')
        simp only [Int.natCast_one, Nat.add_sub_cancel] at hrun
        have hbb : (b != b) = false := by simp
        clear hb hC hc hf hr hA' hM
        go_enter Tryz.func30, Tryz.ntmps30
        go_wp2_with (fail)
        refine HF.out.mono ?_
        rintro en w1 ⟨rfl, rfl⟩
        go_wp2_with (fail)
        go_end0
        unfold skipF
        rw [if_neg (by simp)]
        simp only [if_pos]
        exact ⟨by trivial, HCUT.out, Fr.set _ _ _ _⟩
      · have hbw : (b != want) = true := bne_iff_ne.2 hw
        clear h
        go_enter Tryz.func30, Tryz.ntmps30
        go_wp2_with (fail)
        refine HF.out.mono ?_
        rintro en w1 ⟨rfl, rfl⟩
        go_wp2_with (fail)
        refine (fail_any g (b :: t) 0 4 _ H.out).mono ?_
        rintro en w2 ⟨rfl, hr, hf⟩
        have HR := Aside0.mk hr
        have HF2 := Aside0.mk hf
        have HW := Aside0.mk hw
        clear hr hf hw hbw
        go_wp2_with (fail)
        go_end0
        unfold skipF
        rw [if_neg (by simp)]
        simp only [if_neg HW.out]
        exact ⟨by trivial, HR.out, HF2.out⟩
  · have HF := Aside0.mk (first_err g bs e w h he)
    have HE := Aside0.mk he
    clear h he
    go_enter Tryz.func30, Tryz.ntmps30
    go_wp2_with (fail)
    refine HF.out.mono ?_
    rintro en w1 ⟨rfl, rfl⟩
    go_wp2_with (fail)
    go_end0
    unfold skipF
    rw [if_pos HE.out]
    exact ⟨rfl, H.out, Fr.refl _ _⟩
/-! ### numerals -/
/-- The number that a text is the numeral of, if it is one. -/
def numOf (s : ByteArray) : Option Int := match Lib.parseIntB 64 s.data.toList with
  | .ok v => if (⟨(Lib.itoa v).toArray⟩ : ByteArray) = s then some v else none
  | _ => none
theorem parse_any (s : ByteArray) (hs : s.size ≤ 140737488351232) (w : World) (hT : TabE w) :
    Calls Tryz.prog 45 #[.string s, .int .i64 10, .int .i64 64] w fun en w' => Below w.heap.size w w' ∧
      ((∃ v : Int, Lib.parseIntB 64 s.data.toList = .ok v ∧ en = .returned (.tuple #[.int .i64 v, .nilIface])) ∨
       ((∀ v : Int, Lib.parseIntB 64 s.data.toList ≠ .ok v) ∧ ∃ (v : Int) (t : TypeId) (p : Value), en = .returned (.tuple #[.int .i64 v, .iface t p]))) := by
  have hl : s.size ≤ 281474976710656 := by omega
  obtain ⟨_, ⟨tp, p, h1⟩, ⟨tq, q, h2⟩⟩ := hT
  rcases hp : Lib.parseIntB 64 s.data.toList with v | _ | _
  · refine (Tryz.strconv_ParseInt_10_at64_ok s (by omega) v hp w).mono fun en w' ⟨he, hw⟩ => ⟨?_, .inl ⟨v, rfl, he⟩⟩
    rcases hw with rfl | ⟨t, rfl⟩
    · exact Below.refl _ _
    · exact Lib.bytesWorld_below w 5 t
  · refine (Any.strconv_ParseInt_10_at64_syntax_var Tryz.laysC174 s hl hp tp p w h1).mono fun en w' ⟨N, he, _, _, hw⟩ => ⟨hw, .inr ⟨(fun v h => by cases h), _, _, _, he⟩⟩
  · refine (Any.strconv_ParseInt_10_at64_range_var Tryz.laysC174 s hl hp tq q w h2).mono fun en w' ⟨N, he, _, _, hw⟩ => ⟨hw, .inr ⟨(fun v h => by cases h), _, _, _, he⟩⟩
theorem format_any (n : Int) (h0 : -9223372036854775808 ≤ n) (h1 : n ≤ 9223372036854775807) (w : World) (hT : TabE w) :
    Calls Tryz.prog 46 #[.int .i64 n, .int .i64 10] w fun en w' => en = .returned (.string ⟨(Lib.itoa n).toArray⟩) ∧ Below w.heap.size w w' := by
  refine (Tryz.strconv_FormatInt_10 n h0 h1 w hT.tab.pow).mono fun en w' ⟨he, k, os, hw⟩ => ⟨he, ?_⟩
  rw [hw]
  exact Lib.below_grow _ _ (Nat.le_refl _) _ _
end Go.Proofs.YtjgommaikaeobaaGreatDoor.RD

namespace Go.Proofs.YtjgommaikaeobaaGreatDoor.RD
open Go.RowKit Go.Shelf Go.Lib Go.Proofs.YtjgommaikaeobaaGreatDoorW.PrintWords Go.Proofs.YtjgommaikaeobaaGreatDoorW.PrintMore Go.Proofs.YtjgommaikaeobaaGreatDoor.G Go.Proofs.YtjgommaikaeobaaGreatDoor.P

/-! ### Index -/
/-- Where a byte stands first; -1: nowhere. -/
def idxI (l : List Int) (a : Int) : Int := match l.findIdx? (fun x => x == a) with
  | some i => i
  | none => -1
theorem idx_l0 (l : List Int) (a : Int) (hl : l.length ≤ 9223372036854775807) (d : Nat) : ∀ (k j : Nat), j + d = l.length → d < k → (∀ i (h : i < l.length), i < j → l[i] ≠ a) → slices_Index_byte_byte.l0 k l a (l.length : Int) (j : Int) = some (idxI l a) := by
  induction d with
  | zero =>
    intro k j h hk hp
    obtain ⟨k, rfl⟩ : ∃ m, k = m + 1 := ⟨k - 1, by omega⟩
    simp only [slices_Index_byte_byte.l0]
    rw [if_neg (by omega)]
    have : l.findIdx? (fun x => x == a) = none := by
      rw [List.findIdx?_eq_none_iff]
      intro x hx
      obtain ⟨i, hi, rfl⟩ := List.getElem_of_mem hx
      exact beq_eq_false_iff_ne.2 (hp i hi (by omega))
    simp [idxI, this]
  | succ d ih =>
    intro k j h hk hp
    obtain ⟨k, rfl⟩ : ∃ m, k = m + 1 := ⟨k - 1, by omega⟩
    have hj : j < l.length := by omega
    have hg : rd l (j : Int) = l[j] := by simp [rd, hj]
    simp only [slices_Index_byte_byte.l0]
    rw [if_pos (by omega), if_pos (by omega), if_pos (by omega), hg]
    by_cases e : a = l[j]
    · rw [if_pos e]
      have : l.findIdx? (fun x => x == a) = some j := by
        rw [List.findIdx?_eq_some_iff_getElem]
        exact ⟨hj, by rw [e]; simp, fun i hi => by simpa using hp i (by omega) hi⟩
      simp [idxI, this]
    · rw [if_neg e]
      have ew : wrap64 ((j : Int) + 1) = ((j + 1 : Nat) : Int) := by unfold wrap64; omega
      rw [ew]
      refine ih k (j + 1) (by omega) (by omega) (fun i hi hij => ?_)
      rcases Nat.lt_or_ge i j with h' | h'
      · exact hp i hi h'
      · obtain rfl : i = j := by omega
        exact fun h => e h.symm
theorem idx_any (A : Option Addr) (c : Nat) (l : List Int) (a : Int) (w : World) (hC : Kd.C (Kd.int .u8) w A l.length l) (hc : l.length ≤ c) :
    Calls Tryz.prog 44 #[.slice A l.length c, .int .u8 a] w fun e w' => e = .returned (.int .i64 (idxI l a)) ∧ ∃ m, w' = w.drewN m := by
  have hf : slices_Index_byte_byte.f (l.length + 1) l a = some (idxI l a) := by
    have := idx_l0 l a hC.2.1 l.length (l.length + 1) 0 (by omega) (by omega) (fun i _ h => absurd h (by omega))
    simpa [slices_Index_byte_byte.f] using this
  exact (slices_Index_byte_byte.calls _ A c l a _ w hC hc hf).mono fun e w' ⟨h1, h2⟩ => ⟨h1, h2.out⟩
theorem idxI_cases (l : List Int) (a : Int) : (idxI l a = -1 ∧ ∀ x ∈ l, x ≠ a) ∨ ∃ i : Nat, ∃ h : i < l.length, idxI l a = i ∧ l[i] = a ∧ ∀ j (hj : j < i), l[j] ≠ a := by
  unfold idxI
  cases h : l.findIdx? (fun x => x == a) with
  | none =>
    left
    rw [List.findIdx?_eq_none_iff] at h
    exact ⟨rfl, fun x hx => by simpa using h x hx⟩
  | some i =>
    right
    rw [List.findIdx?_eq_some_iff_getElem] at h
    obtain ⟨hi, h1, h2⟩ := h
    exact ⟨i, hi, rfl, by simpa using h1, fun j hj => by simpa using h2 j hj⟩
/-! ### until -/
/-- What until answers, and what it leaves. -/
def untilF (bs : List Int) (e : Int) (stop : Int) (long : Nat) : Int × Bool × List Int × Int :=
  if idxI (bs.take (long + 1)) stop = -1 then (0, false, [], if long < bs.length then 4 else 3)
  else match numOf (strOfNums (bs.take (idxI (bs.take (long + 1)) stop).toNat)) with
    | some v => (v, true, bs.drop ((idxI (bs.take (long + 1)) stop).toNat + 1), e)
    | none => (0, false, [], 4)
theorem ba_inj {a b : ByteArray} (h : a.toList = b.toList) : a = b := by
  rw [ByteArray.toList_eq, ByteArray.toList_eq] at h
  obtain ⟨⟨a⟩⟩ := a
  obtain ⟨⟨b⟩⟩ := b
  simp at h
  rw [h]
theorem min2_mn (k k' : IntKind) (x y : Int) : Builtin.min2 (.int k x) (.int k' y) = pure (.int k (mn x y)) := by simp only [Builtin.min2, mn]
theorem keep_rd {w w' : World} {g : Nat} {cs : Array Value} (hb : w.heap[g]? = some (.cells cs 54 (0, 0))) (hw : Below w.heap.size w w') : w'.heap[g]? = some (.cells cs 54 (0, 0)) := (hw.block g (blk_lt hb)).trans hb
section
attribute [local go_sem] min_two min2_mn
set_option maxHeartbeats 4000000 in
set_option maxRecDepth 100000 in
theorem until10_any (g : Nat) (bs : List Int) (e stop : Int) (w : World) (h : RdAt w g bs e) (hT : TabE w) (hn : bs.length ≤ 140737488351232) :
    Calls Tryz.prog 33 #[.pointer (some ⟨g, 0, none⟩), .int .u8 stop, .int .i64 10] w fun en w' => en = .returned (.tuple #[.int .i64 (untilF bs e stop 10).1, .bool (untilF bs e stop 10).2.1]) ∧ RdAt w' g (untilF bs e stop 10).2.2.1 (untilF bs e stop 10).2.2.2 ∧ Fr w w' g := by
  have H := Aside0.mk h
  have HT := Aside0.mk hT
  obtain ⟨A, c, hb, hC, hc, hf, hr, hM⟩ := h
  have HM := Aside0.mk hM
  clear hM
  obtain ⟨K, hK⟩ : ∃ K : Nat, K = (bs.take (10 + 1)).length := ⟨_, rfl⟩
  have hKl : K = min (10 + 1) bs.length := by rw [hK, List.length_take]
  have hKn : K ≤ bs.length := by omega
  have hK11 : K ≤ 10 + 1 := by omega
  have hCK : Kd.C (Kd.int .u8) w A K (bs.take (10 + 1)) := by
    have e1 : bs.take (10 + 1) = bs.take K := by rw [hKl, List.take_eq_take_min]
    rw [hK, e1]
    exact Kd.C_take hC hKn
  obtain ⟨p, hp⟩ : ∃ p, p = bs.take (10 + 1) := ⟨_, rfl⟩
  have HP := Aside0.mk hp
  rw [← hp] at hK hCK
  have HIX := Aside0.mk (fun m : Nat => idx_any A c p stop (w.drewN m) (by rw [← hK]; exact hCK) (by rw [← hK]; omega))
  rw [← hK] at HIX
  have hz : (Tryz.prog.info? 5).map (fun i => i.size) = some 1 := by kernel_rfl
  obtain ⟨i0, hi0, _⟩ := Option.map_eq_some_iff.1 hz
  obtain ⟨n, hnn⟩ : ∃ n, n = bs.length := ⟨_, rfl⟩
  have hcut := cut_to (P := Tryz.prog) 34 5 .i64 Tryz.underlying34 hi0 A n c (K : Int) (by omega) (by omega) (by omega)
  rw [Int.toNat_natCast] at hcut
  have hmn : mn (n : Int) (10 + 1) = (K : Int) := by unfold mn; split <;> omega
  have h0 : w.cell? ⟨g, 0, none⟩ = some (.slice A n c) := by rw [hnn]; exact (blk_cell hb 0).trans rfl
  have HB := Aside0.mk hb
  have HC := Aside0.mk hC
  have HCC := Aside0.mk hc
  have HF := Aside0.mk hf
  have HR := Aside0.mk hr
  have HN := Aside0.mk hnn
  have HK := Aside0.mk hK
  have HKL := Aside0.mk (And.intro hKl hKn)
  have HNB := Aside0.mk hn
  obtain ⟨ix, hix⟩ : ∃ ix, ix = idxI p stop := ⟨_, rfl⟩
  have HX := Aside0.mk hix
  rw [← hix] at HIX
  simp only [Int.reduceAdd] at hmn
  clear hCK hp hK hb hC hc hf hr hnn hKl hKn hK11 hz hn hT hix
  rcases idxI_cases p stop with ⟨hneg, _⟩ | ⟨i, hi, hie, hia, hib⟩
  · by_cases hl : 10 < n
    · have HU := Aside0.mk (show untilF bs e stop 10 = (0, false, [], 4) by
        unfold untilF
        rw [← HP.out, hneg, if_pos rfl, if_pos (by rw [← HN.out]; exact hl)])
      have hix2 := HX.out
      rw [hneg] at hix2
      subst hix2
      have hgt : decide ((n : Int) > 10) = true := by simp; omega
      have hlt : decide ((10 : Int) < (n : Int)) = true := by simp; omega
      have hlt2 : decide (10 < n) = true := by simp; omega
      clear hl hneg
      go_enter Tryz.func33, Tryz.ntmps33
      go_wp2_with (fail)
      go_quiet ((go_at_call 44; exact Calls.quiet_of (HIX.out _)))
      clear HIX hcut hmn
      go_wp2_with (fail)
      refine (fail_any g bs e 4 _ (H.out.drewN _)).mono ?_
      rintro en w1 ⟨rfl, hr1, hf1⟩
      have HR1 := Aside0.mk hr1
      have HF1 := Aside0.mk (Fr.trans (Fr.of_below (pw_below_drewN (Below.refl _ w) _) H.out.lt) hf1)
      clear hr1 hf1 h0
      go_wp2_with (fail)
      go_ret2
      rw [HU.out]
      exact ⟨rfl, HR1.out, HF1.out⟩
    · have HU := Aside0.mk (show untilF bs e stop 10 = (0, false, [], 3) by
        unfold untilF
        rw [← HP.out, hneg, if_pos rfl, if_neg (by rw [← HN.out]; exact hl)])
      have hix2 := HX.out
      rw [hneg] at hix2
      subst hix2
      have hgt : decide ((n : Int) > 10) = false := by simp; omega
      have hlt : decide ((10 : Int) < (n : Int)) = false := by simp; omega
      have hlt2 : decide (10 < n) = false := by simp; omega
      clear hl hneg
      go_enter Tryz.func33, Tryz.ntmps33
      go_wp2_with (fail)
      go_quiet ((go_at_call 44; exact Calls.quiet_of (HIX.out _)))
      clear HIX hcut hmn
      go_wp2_with (fail)
      refine (fail_any g bs e 3 _ (H.out.drewN _)).mono ?_
      rintro en w1 ⟨rfl, hr1, hf1⟩
      have HR1 := Aside0.mk hr1
      have HF1 := Aside0.mk (Fr.trans (Fr.of_below (pw_below_drewN (Below.refl _ w) _) H.out.lt) hf1)
      clear hr1 hf1 h0
      go_wp2_with (fail)
      go_ret2
      rw [HU.out]
      exact ⟨rfl, HR1.out, HF1.out⟩
  · have hix2 := HX.out
    rw [hie] at hix2
    subst hix2
    have HIE := Aside0.mk hie
    have hiK : i < K := by rw [HK.out]; exact hi
    have hin : i < n := by have := HKL.out.2; rw [← HN.out] at this; omega
    have hlt0 : decide ((i : Int) < 0) = false := by simp
    have hcut1 := cut_to (P := Tryz.prog) 34 5 .i64 Tryz.underlying34 hi0 A n c (i : Int) (by omega) (by omega) (by have := HCC.out; rw [← HN.out] at this; exact this)
    rw [Int.toNat_natCast] at hcut1
    have hCi : ∀ W, Kd.C (Kd.int .u8) W A bs.length bs → (convert 34 9 (.slice A i c)).run Tryz.prog W = .ok (.string (strOfNums (bs.take i))) W := fun W hW => by
      have h1 := Kd.C_take hW (m := i) (by rw [← HN.out]; omega)
      have e1 : (bs.take i).length = i := by rw [List.length_take, ← HN.out]; omega
      rw [e1] at h1
      exact Kd.C_string Tryz.underlying34 Tryz.underlying5 Tryz.underlying9 h1
    have hconv := fun m : Nat => hCi (w.drewN m) HC.out
    obtain ⟨s, hs⟩ : ∃ s, s = strOfNums (bs.take i) := ⟨_, rfl⟩
    have hss : s.size ≤ 140737488351232 := by
      rw [hs]
      have h1 : (strOfNums (bs.take i)).size = (bs.take i).length := by simp [strOfNums, ByteArray.size]
      have h2 := HNB.out
      rw [h1, List.length_take]
      omega
    have HS := Aside0.mk hs
    have HSS := Aside0.mk hss
    rw [← hs] at hconv
    have hib2 : (i : Int) ≤ 140737488351232 := by
      have h2 := HNB.out
      rw [← HN.out] at h2
      omega
    obtain ⟨A', hA', hcut2⟩ := cut_bytes A n c (i + 1) (by omega)
    rw [show ((i + 1 : Nat) : Int) = (i : Int) + 1 from by omega] at hcut2
    have HA' := Aside0.mk hA'
    clear hA'
    clear hs hss hie hi hia hib hCi hlt0
    have hlt0 : decide ((i : Int) < 0) = false := by simp
    clear hiK
    have HIN := Aside0.mk hin
    clear hin
    go_enter Tryz.func33, Tryz.ntmps33
    go_wp2_with (fail)
    go_quiet ((go_at_call 44; exact Calls.quiet_of (HIX.out _)))
    clear HIX hcut hmn
    go_wp2_with (fail)
    refine (parse_any s HSS.out _ (HT.out.below (pw_below_drewN (Below.refl _ w) _))).mono ?_
    rintro en w1 ⟨hb1, hcase⟩
    have HB1 := Aside0.mk (below_then (pw_below_drewN (Below.refl _ w) _) (Nat.le_refl _) hb1)
    clear hb1 hconv hcut1 h0
    rcases hcase with ⟨v, hv, rfl⟩ | ⟨hnv, v, t, q, rfl⟩
    · have HV := Aside0.mk hv
      have hvb := Lib.parseIntB_bounds hv
      obtain ⟨fs, hfs⟩ : ∃ fs : ByteArray, fs = ⟨(Lib.itoa v).toArray⟩ := ⟨_, rfl⟩
      have HFS := Aside0.mk hfs
      have hfm := format_any v (by have := hvb.1; simpa using this) (by have := hvb.2; simp at this; omega) w1 (HT.out.below HB1.out)
      rw [← hfs] at hfm
      have HFM := Aside0.mk hfm
      clear hv hvb hfs hfm
      go_wp2_with (fail)
      refine HFM.out.mono ?_
      rintro en w2 ⟨rfl, hb2⟩
      have HB2 := Aside0.mk (below_then HB1.out HB1.out.size hb2)
      clear hb2 HFM
      by_cases hEq : fs = s
      · have HU := Aside0.mk (show untilF bs e stop 10 = (v, true, bs.drop (i + 1), e) by
          unfold untilF
          rw [← HP.out, HIE.out, if_neg (by omega), Int.toNat_natCast]
          have hno : numOf (strOfNums (bs.take i)) = some v := by
            rw [← HS.out]
            unfold numOf
            rw [HV.out]
            simp only []
            rw [if_pos (by rw [← HFS.out]; exact hEq)]
          rw [hno])
        have hne : (fs.toList == s.toList) = true := by rw [hEq]; simp
        have hb2' := keep_rd HB.out HB2.out
        have h0' : w2.cell? ⟨g, 0, none⟩ = some (.slice A n c) := by rw [HN.out]; exact (blk_cell hb2' 0).trans rfl
        have f0' : w2.frozen? ⟨g, 0, none⟩ = false := blk_frozen hb2' 0
        have HCUT := Aside0.mk (RdAt.cut hb2' (Kd.C_below HC.out HB2.out) HCC.out HF.out HR.out (HM.out.below HB2.out) (i + 1) (by have := HIN.out; rw [HN.out] at this; omega) A' HA'.out)
        rw [← HN.out] at HCUT
        clear hEq hb2'
        go_wp2_with (fail)
        go_ret2
        rw [HU.out]
        exact ⟨rfl, HCUT.out, (Fr.of_below HB2.out H.out.lt).trans (Fr.set _ _ _ _)⟩
      · have HU := Aside0.mk (show untilF bs e stop 10 = (0, false, [], 4) by
          unfold untilF
          rw [← HP.out, HIE.out, if_neg (by omega), Int.toNat_natCast]
          have hno : numOf (strOfNums (bs.take i)) = none := by
            rw [← HS.out]
            unfold numOf
            rw [HV.out]
            simp only []
            rw [if_neg (by rw [← HFS.out]; exact hEq)]
          rw [hno])
        have hne : (fs.toList == s.toList) = false := by
          rw [beq_eq_false_iff_ne]
          intro hh
          exact hEq (ba_inj hh)
        clear hEq hcut2
        go_wp2_with (fail)
        refine (fail_any g bs e 4 _ (H.out.below HB2.out)).mono ?_
        rintro en w3 ⟨rfl, hr1, hf1⟩
        have HR1 := Aside0.mk hr1
        have HF1 := Aside0.mk (Fr.trans (Fr.of_below HB2.out H.out.lt) hf1)
        clear hr1 hf1
        go_wp2_with (fail)
        go_ret2
        rw [HU.out]
        exact ⟨rfl, HR1.out, HF1.out⟩
    · have HU := Aside0.mk (show untilF bs e stop 10 = (0, false, [], 4) by
        unfold untilF
        rw [← HP.out, HIE.out, if_neg (by omega), Int.toNat_natCast]
        have hno : numOf (strOfNums (bs.take i)) = none := by
          rw [← HS.out]
          unfold numOf
          split
          · rename_i v2 hv2
            exact absurd hv2 (hnv v2)
          · rfl
        rw [hno])
      clear hnv hcut2
      go_wp2_with (fail)
      refine (fail_any g bs e 4 _ (H.out.below HB1.out)).mono ?_
      rintro en w3 ⟨rfl, hr1, hf1⟩
      have HR1 := Aside0.mk hr1
      have HF1 := Aside0.mk (Fr.trans (Fr.of_below HB1.out H.out.lt) hf1)
      clear hr1 hf1
      go_wp2_with (fail)
      go_ret2
      rw [HU.out]
      exact ⟨rfl, HR1.out, HF1.out⟩
end
/-! ### Text -/
/-- What Text answers, and what it leaves. -/
def textF (bs : List Int) (e : Int) (most : Int) : ByteArray × List Int × Int :=
  if e ≠ 0 then (⟨#[]⟩, bs, e) else match bs with
    | [] => (⟨#[]⟩, [], 3)
    | b :: t => if b < 48 ∨ 57 < b then (⟨#[]⟩, [], 4) else
      if (untilF (b :: t) 0 58 10).2.1 = false then (⟨#[]⟩, (untilF (b :: t) 0 58 10).2.2.1, (untilF (b :: t) 0 58 10).2.2.2)
      else if 1000000000 < (untilF (b :: t) 0 58 10).1 then (⟨#[]⟩, [], 4)
      else if most < (untilF (b :: t) 0 58 10).1 then (⟨#[]⟩, [], 5)
      else if ((untilF (b :: t) 0 58 10).2.2.1.length : Int) < (untilF (b :: t) 0 58 10).1 then (⟨#[]⟩, [], 3)
      else (strOfNums ((untilF (b :: t) 0 58 10).2.2.1.take (untilF (b :: t) 0 58 10).1.toNat), (untilF (b :: t) 0 58 10).2.2.1.drop (untilF (b :: t) 0 58 10).1.toNat, (untilF (b :: t) 0 58 10).2.2.2)
theorem numOf_itoa {s : ByteArray} {v : Int} (h : numOf s = some v) : s.data.toList = Lib.itoa v ∧ -9223372036854775808 ≤ v ∧ v ≤ 9223372036854775807 := by
  unfold numOf at h
  split at h
  · rename_i v2 hv
    split at h
    · rename_i hs
      obtain rfl := Option.some.inj h
      have hb := Lib.parseIntB_bounds hv
      refine ⟨by rw [← hs], by have := hb.1; simpa using this, by have := hb.2; simp at this; omega⟩
    · cases h
  · cases h
theorem untilF_true {bs : List Int} {e stop : Int} {long : Nat} {v : Int} {r : List Int} {e2 : Int} (h : untilF bs e stop long = (v, true, r, e2)) :
    ∃ i : Nat, i < (bs.take (long + 1)).length ∧ (bs.take (long + 1))[i]? = some stop ∧ (∀ x ∈ bs.take i, x ≠ stop) ∧ numOf (strOfNums (bs.take i)) = some v ∧ r = bs.drop (i + 1) ∧ e2 = e := by
  unfold untilF at h
  rcases idxI_cases (bs.take (long + 1)) stop with ⟨hneg, _⟩ | ⟨i, hi, hie, hia, hib⟩
  · rw [hneg, if_pos rfl] at h
    cases h
  · rw [hie, if_neg (by omega), Int.toNat_natCast] at h
    split at h
    · rename_i v2 hv
      injection h with h1 h2
      injection h2 with _ h3
      injection h3 with h3 h4
      subst h1 h3 h4
      refine ⟨i, hi, by rw [List.getElem?_eq_getElem hi, hia], fun x hx => ?_, hv, rfl, rfl⟩
      obtain ⟨j, hj, rfl⟩ := List.getElem_of_mem hx
      rw [List.length_take] at hj hi
      have := hib j (by omega)
      rw [List.getElem_take] at this ⊢
      exact this
    · cases h
theorem strOf_head {l : List Int} {b : Int} {t : List Int} (h : l = b :: t) (h0 : 0 ≤ b) (h1 : b ≤ 255) : (strOfNums l).data.toList.head?.map (·.toNat) = some b.toNat := by
  subst h
  unfold strOfNums
  simp
  omega
theorem until_nat {b : Int} {t : List Int} {e : Int} {v : Int} {r : List Int} {e2 : Int} (hb : 48 ≤ b) (hb2 : b ≤ 57) (h : untilF (b :: t) e 58 10 = (v, true, r, e2)) : 0 ≤ v ∧ v ≤ 9223372036854775807 := by
  obtain ⟨i, hi, his, _, hv, _, _⟩ := untilF_true h
  obtain ⟨h1, h2, h3⟩ := numOf_itoa hv
  refine ⟨?_, h3⟩
  cases i with
  | zero =>
    rw [List.getElem?_eq_getElem hi] at his
    simp at his
    omega
  | succ i =>
    rcases Int.lt_or_le v 0 with hneg | hpos
    · exfalso
      have hh := strOf_head (l := (b :: t).take (i + 1)) (b := b) (t := t.take i) (by simp) (by omega) (by omega)
      rw [h1] at hh
      unfold Lib.itoa at hh
      rw [if_pos hneg] at hh
      simp at hh
      omega
    · exact hpos
set_option maxHeartbeats 4000000 in
set_option maxRecDepth 100000 in
theorem text_any (g : Nat) (bs : List Int) (e most : Int) (w : World) (h : RdAt w g bs e) (hT : TabE w) (hn : bs.length ≤ 140737488351232) (hm : 0 ≤ most) (hm2 : most ≤ 1000000000) :
    Calls Tryz.prog 14 #[.pointer (some ⟨g, 0, none⟩), .int .i64 most] w fun en w' => en = .returned (.string (textF bs e most).1) ∧ RdAt w' g (textF bs e most).2.1 (textF bs e most).2.2 ∧ Fr w w' g := by
  have H := Aside0.mk h
  have HT := Aside0.mk hT
  by_cases he : e = 0
  · subst he
    cases bs with
    | nil =>
      clear h hT hn
      go_enter Tryz.func14, Tryz.ntmps14
      go_wp2_with (fail)
      refine (first_end g _ H.out).mono ?_
      rintro en w1 ⟨rfl, hr, hf⟩
      have HR := Aside0.mk hr
      have HF := Aside0.mk hf
      clear hr hf
      go_wp2_with (fail)
      go_ret
      exact ⟨rfl, HR.out, HF.out⟩
    | cons b t =>
      have HF := Aside0.mk (first_some g b t w h)
      by_cases hd : b < 48 ∨ 57 < b
      · have HU := Aside0.mk (show textF (b :: t) 0 most = (⟨#[]⟩, [], 4) by
          unfold textF
          rw [if_neg (by simp)]
          simp only [if_pos hd])
        have hcase : decide (b < 48) = true ∨ (decide (b < 48) = false ∧ decide (b > 57) = true ∧ decide (57 < b) = true) := by
          rcases hd with hd | hd
          · exact .inl (by simpa using hd)
          · by_cases hb : b < 48
            · exact .inl (by simpa using hb)
            · exact .inr ⟨by simpa using hb, by simpa using hd, by simpa using hd⟩
        clear h hT hn hd
        rcases hcase with hb1 | ⟨hb1, hb2, hb3⟩
        all_goals
          go_enter Tryz.func14, Tryz.ntmps14
          go_wp2_with (fail)
          refine HF.out.mono ?_
          rintro en w1 ⟨rfl, rfl⟩
          go_wp2_with (fail)
          refine (fail_any g (b :: t) 0 4 _ H.out).mono ?_
          rintro en w2 ⟨rfl, hr, hf⟩
          have HR := Aside0.mk hr
          have HF2 := Aside0.mk hf
          clear hr hf
          go_wp2_with (fail)
          go_ret
          rw [HU.out]
          exact ⟨rfl, HR.out, HF2.out⟩
      · have hb1 : decide (b < 48) = false := by simp; omega
        have hb2 : decide (b > 57) = false := by simp; omega
        have hb3 : decide (57 < b) = false := by simp; omega
        have HD := Aside0.mk hd
        have HUN := Aside0.mk (fun W hW hTW => until10_any g (b :: t) 0 58 W hW hTW hn)
        have HNAT := Aside0.mk (fun v r e2 => until_nat (b := b) (t := t) (e := 0) (v := v) (r := r) (e2 := e2) (by omega) (by omega))
        have HLEN := Aside0.mk (show ∀ v r e2, untilF (b :: t) 0 58 10 = (v, true, r, e2) → r.length ≤ 140737488351232 from fun v r e2 hu => by
          obtain ⟨i, _, _, _, _, hr, _⟩ := untilF_true hu
          rw [hr, List.length_drop]; omega)
        have HTX := Aside0.mk (show textF (b :: t) 0 most = (if (untilF (b :: t) 0 58 10).2.1 = false then (⟨#[]⟩, (untilF (b :: t) 0 58 10).2.2.1, (untilF (b :: t) 0 58 10).2.2.2)
            else if 1000000000 < (untilF (b :: t) 0 58 10).1 then (⟨#[]⟩, [], 4)
            else if most < (untilF (b :: t) 0 58 10).1 then (⟨#[]⟩, [], 5)
            else if ((untilF (b :: t) 0 58 10).2.2.1.length : Int) < (untilF (b :: t) 0 58 10).1 then (⟨#[]⟩, [], 3)
            else (strOfNums ((untilF (b :: t) 0 58 10).2.2.1.take (untilF (b :: t) 0 58 10).1.toNat), (untilF (b :: t) 0 58 10).2.2.1.drop (untilF (b :: t) 0 58 10).1.toNat, (untilF (b :: t) 0 58 10).2.2.2)) by
          unfold textF
          rw [if_neg (by simp)]
          simp only [if_neg hd])
        clear h hT hn hd
        go_enter Tryz.func14, Tryz.ntmps14
        go_wp2_with (fail)
        refine HF.out.mono ?_
        rintro en w1 ⟨rfl, rfl⟩
        go_wp2_with (fail)
        have hun := HUN.out _ H.out HT.out
        obtain ⟨u, hu⟩ : ∃ u, u = untilF (b :: t) 0 58 10 := ⟨_, rfl⟩
        rw [← hu] at hun
        obtain ⟨v, ok, r, e2⟩ := u
        refine hun.mono ?_
        rintro en w2 ⟨rfl, hr, hf⟩
        have HU := Aside0.mk hu.symm
        have HR := Aside0.mk (show RdAt w2 g r e2 from hr)
        have HF2 := Aside0.mk hf
        clear hun hu hr hf HUN
        cases ok with
        | false =>
          go_wp2_with (fail)
          go_ret
          rw [HTX.out, HU.out]
          exact ⟨rfl, HR.out, HF2.out⟩
        | true =>
          obtain ⟨hv0, hv1⟩ := HNAT.out v r e2 HU.out
          obtain ⟨m, rfl⟩ := Int.eq_ofNat_of_zero_le hv0
          have HRL := Aside0.mk (HLEN.out _ r e2 HU.out)
          clear HNAT HLEN hv0
          by_cases h1 : (1000000000 : Int) < (m : Int)
          · have HX := Aside0.mk h1
            have q1 : decide ((m : Int) > 1000000000) = true := by simp; omega
            have q2 : decide ((1000000000 : Int) < (m : Int)) = true := by simp; omega
            have q3 : decide (1000000000 < m) = true := by simp; omega
            clear h1
            go_wp2_with (fail)
            refine (fail_any g r e2 4 _ HR.out).mono ?_
            rintro en w3 ⟨rfl, hr, hf⟩
            have HR3 := Aside0.mk hr
            have HF3 := Aside0.mk hf
            clear hr hf
            go_wp2_with (fail)
            go_ret
            rw [HTX.out, HU.out]
            simp only [Bool.true_eq_false, if_false]
            rw [if_pos (by have := HX.out; omega)]
            exact ⟨rfl, HR3.out, HF2.out.trans HF3.out⟩
          · have HX := Aside0.mk h1
            have q1 : decide ((m : Int) > 1000000000) = false := by simp; omega
            have q2 : decide ((1000000000 : Int) < (m : Int)) = false := by simp; omega
            have q3 : decide (1000000000 < m) = false := by simp; omega
            have hmm : (m : Int) ≤ 1000000000 := by omega
            clear h1
            by_cases h2 : most < (m : Int)
            · have HX2 := Aside0.mk h2
              have q4 : decide ((m : Int) > most) = true := by simpa using h2
              have q5 : decide (most < (m : Int)) = true := by simpa using h2
              clear h2
              go_wp2_with (fail)
              refine (fail_any g r e2 5 _ HR.out).mono ?_
              rintro en w3 ⟨rfl, hr, hf⟩
              have HR3 := Aside0.mk hr
              have HF3 := Aside0.mk hf
              clear hr hf
              go_wp2_with (fail)
              go_ret
              rw [HTX.out, HU.out]
              simp only [Bool.true_eq_false, if_false]
              rw [if_neg (by have := HX.out; omega), if_pos (by have := HX2.out; omega)]
              exact ⟨rfl, HR3.out, HF2.out.trans HF3.out⟩
            · have HX2 := Aside0.mk h2
              have q4 : decide ((m : Int) > most) = false := by simpa using h2
              have q5 : decide (most < (m : Int)) = false := by simpa using h2
              clear h2
              obtain ⟨A, c, hb, hC, hc, hf, hr, hM⟩ := HR.out
              obtain ⟨n, hnn⟩ : ∃ n, n = r.length := ⟨_, rfl⟩
              have HN := Aside0.mk hnn
              have h0 : w2.cell? ⟨g, 0, none⟩ = some (.slice A n c) := by rw [hnn]; exact (blk_cell hb 0).trans rfl
              by_cases h3 : (n : Int) < (m : Int)
              · have HX3 := Aside0.mk h3
                have q6 : decide ((m : Int) > (n : Int)) = true := by simp; omega
                have q7 : decide ((n : Int) < (m : Int)) = true := by simp; omega
                have q8 : decide (n < m) = true := by simp; omega
                clear h3 hb hC hc hf hr hM hnn
                go_wp2_with (fail)
                refine (fail_any g r e2 3 _ HR.out).mono ?_
                rintro en w3 ⟨rfl, hr, hf⟩
                have HR3 := Aside0.mk hr
                have HF3 := Aside0.mk hf
                clear hr hf
                go_wp2_with (fail)
                go_ret
                rw [HTX.out, HU.out]
                have HX4 : ((r.length : Nat) : Int) < (m : Int) := by have := HX3.out; rw [HN.out] at this; omega
                simp only [Bool.true_eq_false, if_false]
                rw [if_neg (by have := HX.out; omega), if_neg (by have := HX2.out; omega), if_pos (by omega)]
                exact ⟨rfl, HR3.out, HF2.out.trans HF3.out⟩
              · have HX3 := Aside0.mk h3
                have q6 : decide ((m : Int) > (n : Int)) = false := by simp; omega
                have q7 : decide ((n : Int) < (m : Int)) = false := by simp; omega
                have q8 : decide (n < m) = false := by simp; omega
                have hz : (Tryz.prog.info? 5).map (fun i => i.size) = some 1 := by kernel_rfl
                obtain ⟨i0, hi0, _⟩ := Option.map_eq_some_iff.1 hz
                have hmn : m ≤ n := by omega
                have hcut1 := cut_to (P := Tryz.prog) 34 5 .i64 Tryz.underlying34 hi0 A n c (m : Int) (by omega) (by omega) (by omega)
                rw [Int.toNat_natCast] at hcut1
                have hconv : (convert 34 9 (.slice A m c)).run Tryz.prog w2 = .ok (.string (strOfNums (r.take m))) w2 := by
                  have h1 := Kd.C_take hC (m := m) (by omega)
                  have e1 : (r.take m).length = m := by rw [List.length_take]; omega
                  rw [e1] at h1
                  exact Kd.C_string Tryz.underlying34 Tryz.underlying5 Tryz.underlying9 h1
                obtain ⟨A', hA', hcut2⟩ := cut_bytes A n c m hmn
                have f0 : w2.frozen? ⟨g, 0, none⟩ = false := blk_frozen hb 0
                have HCUT := Aside0.mk (RdAt.cut hb hC hc hf hr hM m (by omega) A' hA')
                rw [← HN.out] at HCUT
                clear h3 hb hC hc hf hr hM hnn hA' hz hmn
                go_wp2_with (fail)
                go_ret
                rw [HTX.out, HU.out]
                have HX4 : ¬ ((r.length : Nat) : Int) < (m : Int) := by have := HX3.out; rw [HN.out] at this; omega
                simp only [Bool.true_eq_false, if_false, Int.toNat_natCast]
                rw [if_neg (by have := HX.out; omega), if_neg (by have := HX2.out; omega), if_neg (by omega)]
                exact ⟨rfl, HCUT.out, HF2.out.trans (Fr.set _ _ _ _)⟩
  · have HF := Aside0.mk (first_err g bs e w h he)
    have HE := Aside0.mk he
    clear h he hT hn
    go_enter Tryz.func14, Tryz.ntmps14
    go_wp2_with (fail)
    refine HF.out.mono ?_
    rintro en w1 ⟨rfl, rfl⟩
    go_wp2_with (fail)
    go_ret
    unfold textF
    rw [if_pos HE.out]
    exact ⟨rfl, H.out, Fr.refl _ _⟩

end Go.Proofs.YtjgommaikaeobaaGreatDoor.RD

namespace Go.Proofs.YtjgommaikaeobaaGreatDoor.RD
open Go.RowKit Go.Shelf Go.Lib Go.Proofs.YtjgommaikaeobaaGreatDoorW.PrintWords Go.Proofs.YtjgommaikaeobaaGreatDoorW.PrintMore Go.Proofs.YtjgommaikaeobaaGreatDoor.G Go.Proofs.YtjgommaikaeobaaGreatDoor.P
theorem open_any (g : Nat) (bs : List Int) (e : Int) (w : World) (h : RdAt w g bs e) :
    Calls Tryz.prog 12 #[.pointer (some ⟨g, 0, none⟩)] w fun en w' => en = .returned (.tuple #[]) ∧ RdAt w' g (skipF 108 bs e).1 (skipF 108 bs e).2 ∧ Fr w w' g := by
  have H := Aside0.mk (skip_any g 108 bs e w h)
  clear h
  go_enter Tryz.func12, Tryz.ntmps12
  go_wp2_with (fail)
  refine H.out.mono ?_
  rintro en w1 ⟨rfl, hr, hf⟩
  have HR := Aside0.mk hr
  have HF := Aside0.mk hf
  clear hr hf
  go_wp2_with (fail)
  go_end0
  exact ⟨rfl, HR.out, HF.out⟩
theorem close_any (g : Nat) (bs : List Int) (e : Int) (w : World) (h : RdAt w g bs e) :
    Calls Tryz.prog 15 #[.pointer (some ⟨g, 0, none⟩)] w fun en w' => en = .returned (.tuple #[]) ∧ RdAt w' g (skipF 101 bs e).1 (skipF 101 bs e).2 ∧ Fr w w' g := by
  have H := Aside0.mk (skip_any g 101 bs e w h)
  clear h
  go_enter Tryz.func15, Tryz.ntmps15
  go_wp2_with (fail)
  refine H.out.mono ?_
  rintro en w1 ⟨rfl, hr, hf⟩
  have HR := Aside0.mk hr
  have HF := Aside0.mk hf
  clear hr hf
  go_wp2_with (fail)
  go_end0
  exact ⟨rfl, HR.out, HF.out⟩
theorem skipF_len (x : Int) (bs : List Int) (e : Int) : (skipF x bs e).1.length ≤ bs.length := by
  unfold skipF
  split
  · exact Nat.le_refl _
  · split
    · exact Nat.zero_le _
    · split
      · simp
      · exact Nat.zero_le _
theorem untilF_len (bs : List Int) (e stop : Int) (long : Nat) : (untilF bs e stop long).2.2.1.length ≤ bs.length := by
  unfold untilF
  split
  · exact Nat.zero_le _
  · split
    · simp only [List.length_drop]; omega
    · exact Nat.zero_le _
theorem textF_len (bs : List Int) (e most : Int) : (textF bs e most).2.1.length ≤ bs.length := by
  unfold textF
  split
  · exact Nat.le_refl _
  · cases bs with
    | nil => exact Nat.zero_le _
    | cons b t =>
      have h := untilF_len (b :: t) 0 58 10
      simp only []
      split
      · exact Nat.zero_le _
      · split
        · exact h
        · split
          · exact Nat.zero_le _
          · split
            · exact Nat.zero_le _
            · split
              · exact Nat.zero_le _
              · simp only [List.length_drop]; omega
theorem bytesOf_bound (s : ByteArray) : ∀ b ∈ bytesOf s, 0 ≤ b ∧ b ≤ 255 := by
  intro b hb
  unfold bytesOf at hb
  obtain ⟨c, _, rfl⟩ := List.mem_map.1 hb
  have := c.toNat_lt
  omega
/-- The reader's row: Fr keeps whatever lies elsewhere. -/
theorem R_fr {α : Type} {d : Kd α} {t : Nat} {w w' : World} {base g : Nat} {v : Value} {xs : List α} (h : d.R t w base (fun k => k ≠ g) v xs) (hf : Fr w w' g) : d.R t w' base (fun k => k ≠ g) v xs := Kd.R_keep h hf.2 (fun _ hk => hk)
end Go.Proofs.YtjgommaikaeobaaGreatDoor.RD
