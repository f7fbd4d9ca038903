/- ben.Int, ben.Text and the document's Int and Text, told as plain Lean functions, each with its contract. -/
import Derived.Test.YtmifpookhhkgeaaDoorTabS
import Derived.Test.YtmifpookhhkgeaaDoorKT
import Derived.Test.YtmifpookhhkgeaaDoorP0
import Derived.Test.YtmifpookhhkgeaaDoorLayB
set_option linter.unusedVariables false
set_option linter.unusedSimpArgs false
namespace Go.Proofs.YtmifpookhhkgeaaDoor.G
open Go.RowKit Go.Shelf Go.Lib Go.Proofs.YtmifpookhhkgeaaDoorW.PrintWords Go.Proofs.YtmifpookhhkgeaaDoorW.PrintLast Go.Proofs.YtmifpookhhkgeaaDoorW.PrintMore Go.Proofs.YtmifpookhhkgeaaDoor.P
def numB (n : Int) : List Int := (Lib.itoa n).map fun b => (b.toNat : Int)
def textB (s : ByteArray) : List Int := numB s.size ++ [58] ++ bytesOf s
def intB (n : Int) : List Int := 105 :: numB n ++ [101]
theorem nDigits_le : ∀ (k u : Nat), u < 10 ^ (k + 1) → nDigits u ≤ k + 1
  | 0, u, h => by rw [nDigits_small (by simpa using h)]; exact Nat.le_refl _
  | k + 1, u, h => by
    by_cases h0 : u < 10
    · rw [nDigits_small h0]; omega
    · rw [nDigits_big h0]
      have := nDigits_le k (u / 10) (by rw [Nat.pow_succ] at h; omega)
      omega
theorem itoa_nat (n : Nat) : Lib.itoa (n : Int) = decDigits n := by
  unfold Lib.itoa
  rw [if_neg (by omega), Int.toNat_natCast]
theorem itoa_len (n : Nat) (h : n ≤ 9223372036854775807) : (Lib.itoa n).length ≤ 19 := by
  rw [itoa_nat, decDigits_length]
  exact nDigits_le 18 n (Nat.lt_of_le_of_lt h (by decide))
theorem itoa_len_any (n : Int) (h0 : -9223372036854775808 ≤ n) (h1 : n ≤ 9223372036854775807) : (Lib.itoa n).length ≤ 20 := by
  unfold Lib.itoa
  split
  · have h3 := nDigits_le 18 (-n).toNat (by omega)
    have e : (-n).toNat = n.natAbs := by omega
    rw [e] at h3
    simp only [List.length_cons, decDigits_length] at *
    omega
  · rw [decDigits_length]
    have := nDigits_le 18 n.toNat (by omega)
    omega
theorem nums_bytes (l : List UInt8) : Lib.byteCells l = nums .u8 (l.map fun b => (b.toNat : Int)) := by
  simp [Lib.byteCells, nums]
theorem appendInt_nil (n : Nat) (hn : n ≤ 140737488351232) (w : World) (hT : TabS w) :
    Calls Tryd.prog 63 #[.slice none 0 0, .int .i64 (n : Int), .int .i64 10] w fun e w' => ∃ v, e = .returned v ∧ Kd.R (Kd.int .u8) 5 w' w.heap.size (fun _ => True) v (numB n) ∧ Below w.heap.size w w' := by
  refine (Tryd.strconv_AppendInt_10 w.heap.size 0 n (by omega) (by omega) (.slice none 0 0) [] w (World.ownsRow_nil _ _ _ _) (Nat.le_refl _) (by omega) (Lib.tabBelow_of_tabIs hT.pow)).mono ?_
  rintro e w' ⟨v, rfl, ho, hb, _⟩
  refine ⟨v, rfl, Kd.R_of_own ?_ (fun _ _ => trivial), hb⟩
  rw [Nat.zero_add, List.nil_append, nums_bytes] at ho
  have e : (numB n).length = (Lib.itoa n).length := by simp [numB]
  rw [e]
  exact ho
theorem appendInt_row (n : Int) (h0 : -9223372036854775808 ≤ n) (h1 : n ≤ 9223372036854775807) (w : World) (hT : TabS w) (v : Value) (xs : List Int) (w1 : World) (hx : xs.length ≤ 1000) (hr : Kd.R (Kd.int .u8) 5 w1 w.heap.size (fun _ => True) v xs) (hb : Below w.heap.size w w1) :
    Calls Tryd.prog 63 #[v, .int .i64 n, .int .i64 10] w1 fun e w' => ∃ v', e = .returned v' ∧ Kd.R (Kd.int .u8) 5 w' w.heap.size (fun _ => True) v' (xs ++ numB n) ∧ Below w.heap.size w1 w' := by
  refine (Tryd.strconv_AppendInt_10 w.heap.size xs.length n h0 h1 v (nums .u8 xs) w1 (Kd.own_of_R hr) hb.size (by omega) ((Lib.tabBelow_of_tabIs hT.pow).on hb)).mono ?_
  rintro e w' ⟨v', rfl, ho, hb', _⟩
  refine ⟨v', rfl, Kd.R_of_own ?_ (fun _ _ => trivial), hb'⟩
  rw [nums_bytes] at ho
  have e : (xs ++ numB n).length = xs.length + (Lib.itoa n).length := by simp [numB]
  rw [e]
  have e2 : encs (Value.int .u8) (xs ++ numB n) = nums .u8 xs ++ nums .u8 ((Lib.itoa n).map fun b => (b.toNat : Int)) := by simp [encs, nums, numB]
  rw [e2]
  exact ho
def BIntG.f (a0 : Int) : Option (List Int) := if -9223372036854775808 ≤ a0 ∧ a0 ≤ 9223372036854775807 then some (intB a0) else none
set_option maxRecDepth 100000 in
set_option maxHeartbeats 4000000 in
theorem int_all (n : Int) (h0 : -9223372036854775808 ≤ n) (h1 : n ≤ 9223372036854775807) (w : World) (hT : TabS w) : Calls Tryd.prog 45 #[.int .i64 n] w fun e w' => ∃ v, e = .returned v ∧ Kd.R (Kd.int .u8) 5 w' w.heap.size (fun _ => True) v (intB n) ∧ Below w.heap.size w w' := by
  have hl : (numB n).length ≤ 20 := by have := itoa_len_any n h0 h1; simpa [numB] using this
  have HA := Aside0.mk (appendInt_row n h0 h1 w hT)
  have HB := Aside0.mk (Below.refl w.heap.size w)
  clear hT h0 h1
  have hi : intB n = ([105] ++ numB n) ++ [101] := rfl
  rw [hi]
  clear hi
  obtain ⟨ys, hys⟩ : ∃ ys, ys = ([105] : List Int) := ⟨_, rfl⟩
  obtain ⟨xs, hxs⟩ : ∃ xs, xs = ys ++ numB n := ⟨_, rfl⟩
  have hxl : xs.length ≤ 21 := by rw [hxs, hys, List.length_append, List.length_singleton]; omega
  have hyl : ys.length ≤ 1000 := by rw [hys]; simp
  rw [← hys, ← hxs]
  have LX := Aside0.mk hxl
  have LY := Aside0.mk hyl
  have NX := Aside0.mk hxs
  have NY := Aside0.mk hys
  clear hxs hys hxl hyl hl
  go_enter Tryd.func45, Tryd.ntmps45
  go_wp2_with (first
    | ((with_reducible refine gate_dst (N := 3) rfl ?_); refine Kd.R_lit (Kd.int .u8) _ 5 ?hg (N := 3) ?hd (xs := ([105] : List Int)) (inner := [.int .u8 105]) (ok := fun _ => True) (okp := fun _ => True) ?hr ?hp (fun _ hk => hk) trivial (Below.refl _ _) (Nat.le_refl _) (by simp) ?_; (case hd => rfl); (case hg => rfl); (case hr => first | (go_simp; done) | (go_simp; rfl)); (case hp => exact (Reps.one (show Kd.M (Kd.int .u8) _ _ _ 105 [.int .u8 105] from rfl) (Reps.none _ _))); intro v102 w4 ho5 hb hg_ hnew_; clear hg_ hnew_; rw [← NY.out] at ho5; have HO := Aside0.mk ho5; have HB1 := Aside0.mk hb; clear hb ho5)
    | fail)
  refine (HA.out v102 ys w4 LY.out HO.out HB1.out).mono ?_
  rintro e w1 ⟨v, rfl, hr, hb⟩
  rw [← NX.out] at hr
  have HR := Aside0.mk hr
  have HB2 := Aside0.mk (HB1.out.trans hb)
  clear hr hb HA HO HB1
  go_wp2_with (first
    | ((with_reducible refine gate_builtin (b := .append) (xs := #[.tmp 5, .tmp 6]) rfl ?_); at_builtin; refine Kd.R_append (Kd.int .u8) (w0 := w) w.heap.size rfl (.tmp 5) (.tmp 6) 29 5 (.int .u8 0) 1 rfl Tryd.underlying29 info5 rfl (by decide) (by omega) v xs 101 [.int .u8 101] (fun _ => True) (fun _ => False) rfl rfl rfl (fun _ hk => hk.elim) (fun _ _ => trivial) HR.out HB2.out HB2.out.size (by have := LX.out; omega) ?_; intro v2 w2 ho2 hb2 hg2 hat2))
  go_ret
  exact ⟨_, rfl, ho2, hb2⟩
theorem BIntG.calls (a0 : Int) (r : List Int) (w : World) (hT : TabS w) (h : BIntG.f a0 = some r) :
    Calls Tryd.prog 45 #[.int .i64 a0] w fun e w' => ∃ v0_ : Value, e = .returned (v0_) ∧ Kd.R (Kd.int .u8) 5 w' w.heap.size (fun _ => True) v0_ r ∧ Below w.heap.size w w' := by
  unfold BIntG.f at h
  by_cases hs : -9223372036854775808 ≤ a0 ∧ a0 ≤ 9223372036854775807
  · rw [if_pos hs] at h
    obtain rfl := Option.some.inj h
    exact int_all a0 hs.1 hs.2 w hT
  · rw [if_neg hs] at h; cases h
def BTextG.f (a0 : ByteArray) : Option (List Int) := if a0.size ≤ 140737488351232 then some (textB a0) else none
set_option maxRecDepth 100000 in
theorem text_all (s : ByteArray) (hs : s.size ≤ 140737488351232) (w : World) (hT : TabS w) : Calls Tryd.prog 44 #[.string s] w fun e w' => ∃ v, e = .returned v ∧ Kd.R (Kd.int .u8) 5 w' w.heap.size (fun _ => True) v (textB s) ∧ Below w.heap.size w w' := by
  have hl : (numB s.size).length ≤ 19 := by have := itoa_len s.size (by omega); simpa [numB] using this
  have HA := Aside0.mk (appendInt_nil s.size hs w hT)
  clear hT
  unfold textB
  obtain ⟨xs, hxs⟩ : ∃ xs, xs = numB s.size := ⟨_, rfl⟩
  rw [← hxs] at hl HA ⊢
  clear hxs
  go_enter Tryd.func44, Tryd.ntmps44
  go_wp2_with (fail)
  refine HA.out.mono ?_
  rintro e w1 ⟨v, rfl, hr, hb⟩
  have HR := Aside0.mk hr
  have HB := Aside0.mk hb
  clear hr hb HA
  go_wp2_with (first
    | ((with_reducible refine gate_builtin (b := .append) (xs := #[.tmp 5, .tmp 6]) rfl ?_); at_builtin; refine Kd.R_append (Kd.int .u8) (w0 := w) w.heap.size rfl (.tmp 5) (.tmp 6) 29 5 (.int .u8 0) 1 rfl Tryd.underlying29 info5 rfl (by decide) (by omega) v xs 58 [.int .u8 58] (fun _ => True) (fun _ => False) rfl rfl rfl (fun _ hk => hk.elim) (fun _ _ => trivial) HR.out HB.out HB.out.size (by omega) ?_; intro v2 w2 ho2 hb2 hg2 hat2; have HR2 := Aside0.mk ho2; have HB2 := Aside0.mk hb2; clear ho2 hb2 hg2 hat2)
    | ((with_reducible refine gate_builtin (b := .append) (xs := #[.tmp 7, .tmp 8]) rfl ?_); at_builtin; refine print_append_str (w0 := w) w.heap.size rfl (.tmp 7) _ 29 9 5 rfl Tryd.underlying29 Tryd.underlying9 info5 v2 (xs ++ [58]) s rfl rfl (Kd.own_of_R HR2.out) HB2.out HB2.out.size (by rw [List.length_append, List.length_singleton]; omega) ?_; intro v3 w3 ho hb hg))
  go_ret
  exact ⟨_, rfl, Kd.R_of_own ho (fun _ _ => trivial), hb⟩
theorem BTextG.calls (a0 : ByteArray) (r : List Int) (w : World) (hT : TabS w) (h : BTextG.f a0 = some r) :
    Calls Tryd.prog 44 #[.string a0] w fun e w' => ∃ v0_ : Value, e = .returned (v0_) ∧ Kd.R (Kd.int .u8) 5 w' w.heap.size (fun _ => True) v0_ r ∧ Below w.heap.size w w' := by
  unfold BTextG.f at h
  by_cases hs : a0.size ≤ 140737488351232
  · rw [if_pos hs] at h
    obtain rfl := Option.some.inj h
    exact text_all a0 hs w hT
  · rw [if_neg hs] at h; cases h
theorem V_bytes {B : Nat} (W1 : World) (hle : B ≤ W1.heap.size) (s : ByteArray) (hs : s.size ≤ 140737488355328) :
    Kd.V (Kd.int .u8) 5 (Lib.bytesWorld W1 5 s) B (fun k_ => B ≤ k_) (.slice (some ⟨W1.heap.size, 0, none⟩) s.size (grownCap W1 s.size 0 5)) (bytesOf s) := by
  have hr := bytes_reads W1 5 s (by omega)
  refine ⟨some ⟨W1.heap.size, 0, none⟩, grownCap W1 s.size 0 5, by rw [bytesOf_length], by rw [bytesOf_length]; exact grownCap_ge _ _ _ _, fun W' hW => ?_⟩
  refine Kd.C_of_reads (enc := Value.int .u8) (d := (0 : Int)) (h1 := fun _ => rfl) ?_
  rw [bytesOf_length]
  obtain ⟨h1, h2, h3⟩ := hr
  refine ⟨h1, h2, fun hp => ?_⟩
  obtain ⟨ad, e, hc⟩ := h3 hp
  injection e with e
  subst e
  refine ⟨_, rfl, fun j hj => ?_⟩
  have hcj := hc j hj
  have hb : W'.heap[W1.heap.size]? = (Lib.bytesWorld W1 5 s).heap[W1.heap.size]? := hW _ hle (by rw [Lib.bytesWorld_size]; omega)
  rw [← hcj]
  simp [World.cell?, add_block, hb]
theorem V_bytesN {B : Nat} (W1 : World) (hle : B ≤ W1.heap.size) (s : ByteArray) (n : Nat) (hn : s.size = n) (hs : n ≤ 140737488355328) :
    Kd.V (Kd.int .u8) 5 (Lib.bytesWorld W1 5 s) B (fun k_ => B ≤ k_) (.slice (some ⟨W1.heap.size, 0, none⟩) n (grownCap W1 n 0 5)) (bytesOf s) := by
  subst hn
  exact V_bytes W1 hle s hs
theorem toldV (a0 : Int) (t : ByteArray) (w : World) (h : watchfireref01_Told.f 30 a0 = some t) : Calls Tryd.prog 70 #[.int .i64 a0] w fun e w' => e = .returned (.string t) ∧ Below w.heap.size w w' := (watchfireref01_Told.calls 30 a0 t w h).mono fun e w' ⟨he, hd⟩ => ⟨he, hd.below⟩
def WIntG.f (a0 : Int) : Option (List Int) := (watchfireref01_Told.f 30 a0).bind fun t => if t.size ≤ 1000 then some (bytesOf (((⟨#[105]⟩ : ByteArray) ++ t) ++ (⟨#[101]⟩ : ByteArray))) else none
def WTextG.f (a0 : ByteArray) : Option (List Int) := if a0.size ≤ 140737488351232 then (watchfireref01_Told.f 30 (a0.size : Int)).bind fun t => if t.size ≤ 1000 then some (bytesOf ((t ++ (⟨#[58]⟩ : ByteArray)) ++ a0)) else none else none
set_option maxRecDepth 100000 in
set_option maxHeartbeats 4000000 in
theorem WIntG.calls (a0 : Int) (r : List Int) (w : World) (h : WIntG.f a0 = some r) :
    Calls Tryd.prog 61 #[.int .i64 a0] w fun e w' => ∃ v0_ : Value, e = .returned (v0_) ∧ Kd.V (Kd.int .u8) 5 w' w.heap.size (fun k_ => (w.heap.size ≤ k_)) v0_ r ∧ Below w.heap.size w w' := by
  unfold WIntG.f at h
  obtain ⟨t, ht, h⟩ := Option.bind_eq_some_iff.mp h
  by_cases hs : t.size ≤ 1000
  · rw [if_pos hs] at h
    obtain rfl := Option.some.inj h
    have kb := fun s W => print_bytes (P := Tryd.prog) 9 29 5 Tryd.underlying9 Tryd.underlying29 Tryd.underlying5 s W
    have HA := Aside0.mk (toldV a0 t w ht)
    have HS := Aside0.mk hs
    clear ht hs h
    go_enter Tryd.func61, Tryd.ntmps61
    go_wp2_with (fail)
    refine HA.out.mono ?_
    rintro e w1 ⟨rfl, hb⟩
    have HB := Aside0.mk hb
    clear hb HA
    have c1 : 1 + t.size ≤ 9223372036854775807 := by have := HS.out; omega
    have c1a := eq_true c1
    have c1b : decide (1 + t.size ≤ 9223372036854775807) = true := decide_eq_true c1
    have c1c : (9223372036854775807 < 1 + t.size) = False := eq_false (Nat.not_lt.2 c1)
    have c2 : 1 + t.size + 1 ≤ 9223372036854775807 := by have := HS.out; omega
    have c2a := eq_true c2
    have c2b : decide (1 + t.size + 1 ≤ 9223372036854775807) = true := decide_eq_true c2
    have c2c : (9223372036854775807 < 1 + t.size + 1) = False := eq_false (Nat.not_lt.2 c2)
    go_wp2_with (fail)
    go_ret
    exact ⟨_, rfl, V_bytesN w1 HB.out.size _ _ (by simp only [ByteArray.size_append]; rfl) (by have := HS.out; omega), bytes_below HB.out HB.out.size _ _⟩
  · rw [if_neg hs] at h; cases h
set_option maxRecDepth 100000 in
set_option maxHeartbeats 4000000 in
theorem WTextG.calls (a0 : ByteArray) (r : List Int) (w : World) (h : WTextG.f a0 = some r) :
    Calls Tryd.prog 60 #[.string a0] w fun e w' => ∃ v0_ : Value, e = .returned (v0_) ∧ Kd.V (Kd.int .u8) 5 w' w.heap.size (fun k_ => (w.heap.size ≤ k_)) v0_ r ∧ Below w.heap.size w w' := by
  unfold WTextG.f at h
  by_cases ha : a0.size ≤ 140737488351232
  case neg => rw [if_neg ha] at h; cases h
  rw [if_pos ha] at h
  obtain ⟨t, ht, h⟩ := Option.bind_eq_some_iff.mp h
  by_cases hs : t.size ≤ 1000
  · rw [if_pos hs] at h
    obtain rfl := Option.some.inj h
    have kb := fun s W => print_bytes (P := Tryd.prog) 9 29 5 Tryd.underlying9 Tryd.underlying29 Tryd.underlying5 s W
    have HA := Aside0.mk (toldV (a0.size : Int) t w ht)
    have HS := Aside0.mk hs
    have HS2 := Aside0.mk ha
    clear ht hs h ha
    go_enter Tryd.func60, Tryd.ntmps60
    go_wp2_with (fail)
    refine HA.out.mono ?_
    rintro e w1 ⟨rfl, hb⟩
    have HB := Aside0.mk hb
    clear hb HA
    have c1 : t.size + 1 ≤ 9223372036854775807 := by have := HS.out; omega
    have c1a := eq_true c1
    have c1b : decide (t.size + 1 ≤ 9223372036854775807) = true := decide_eq_true c1
    have c1c : (9223372036854775807 < t.size + 1) = False := eq_false (Nat.not_lt.2 c1)
    have c2 : t.size + 1 + a0.size ≤ 9223372036854775807 := by have := HS.out; have := HS2.out; omega
    have c2a := eq_true c2
    have c2b : decide (t.size + 1 + a0.size ≤ 9223372036854775807) = true := decide_eq_true c2
    have c2c : (9223372036854775807 < t.size + 1 + a0.size) = False := eq_false (Nat.not_lt.2 c2)
    go_wp2_with (fail)
    go_ret
    exact ⟨_, rfl, V_bytesN w1 HB.out.size _ _ (by simp only [ByteArray.size_append]; rfl) (by have := HS.out; have := HS2.out; omega), bytes_below HB.out HB.out.size _ _⟩
  · rw [if_neg hs] at h; cases h
end Go.Proofs.YtmifpookhhkgeaaDoor.G
