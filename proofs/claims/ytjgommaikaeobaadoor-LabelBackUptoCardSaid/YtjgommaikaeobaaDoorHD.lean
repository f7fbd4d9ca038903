/- Keys of unlike pairs are unlike: plain laws. -/
import Derived.Test.YtjgommaikaeobaaDoorV1
import Derived.Test.YtjgommaikaeobaaDoorGB
import Derived.Test.YtjgommaikaeobaaDoorV2
import Derived.Test.YtjgommaikaeobaaDoorOpensM
import Derived.Lib.LaidTab
import Derived.Stop.LaidErr
set_option linter.unusedVariables false
set_option linter.unusedSimpArgs false
namespace Go.Proofs.YtjgommaikaeobaaDoor.G
open Go.RowKit Go.Shelf Go.Lib Go.Proofs.YtjgommaikaeobaaDoorW.PrintWords Go.Proofs.YtjgommaikaeobaaDoor.PLabelSorts Go.Proofs.YtjgommaikaeobaaDoor.R Go.Proofs.YtjgommaikaeobaaDoor.L

/-! ### numerals -/
def valI (l : List Int) : Int := l.foldl (fun a b => a * 10 + (b - 48)) 0
theorem digits_mem (n : Nat) : ∀ b ∈ decDigits n, 48 ≤ b.toNat ∧ b.toNat ≤ 57 := by
  induction n using Nat.strongRecOn with
  | _ n ih =>
    intro b hb
    rw [decDigits] at hb
    by_cases h : n < 10
    · rw [dif_pos h] at hb
      rw [List.mem_singleton.1 hb, UInt8.toNat_ofNat', Nat.mod_eq_of_lt (by omega)]
      omega
    · rw [dif_neg h] at hb
      rcases List.mem_append.1 hb with hb | hb
      · exact ih (n / 10) (by omega) b hb
      · rw [List.mem_singleton.1 hb, UInt8.toNat_ofNat', Nat.mod_eq_of_lt (by omega)]
        omega
theorem val_digits (n : Nat) : valI ((decDigits n).map fun b => (b.toNat : Int)) = n := by
  induction n using Nat.strongRecOn with
  | _ n ih =>
    rw [decDigits]
    by_cases h : n < 10
    · rw [dif_pos h]
      simp only [List.map_cons, List.map_nil, valI, List.foldl_cons, List.foldl_nil, UInt8.toNat_ofNat']
      rw [Nat.mod_eq_of_lt (by omega)]
      omega
    · rw [dif_neg h]
      have h1 := ih (n / 10) (by omega)
      unfold valI at h1 ⊢
      rw [List.map_append, List.foldl_append, h1]
      simp only [List.map_cons, List.map_nil, List.foldl_cons, List.foldl_nil, UInt8.toNat_ofNat']
      rw [Nat.mod_eq_of_lt (by omega)]
      omega
theorem numB_mem (n : Nat) : ∀ b ∈ numB n, 48 ≤ b ∧ b ≤ 57 := by
  intro b hb
  unfold numB at hb
  rw [itoa_nat] at hb
  obtain ⟨c, hc, rfl⟩ := List.mem_map.1 hb
  have := digits_mem n c hc
  omega
theorem numB_val (n : Nat) : valI (numB n) = n := by
  unfold numB
  rw [itoa_nat]
  exact val_digits n
theorem numB_inj {m n : Nat} (h : numB m = numB n) : m = n := by
  have := numB_val m
  rw [h, numB_val n] at this
  omega
theorem numB_ne_nil (n : Nat) : numB n ≠ [] := by
  unfold numB
  rw [itoa_nat, decDigits]
  split <;> simp
/-! ### texts -/
theorem split_at (c : Int) : ∀ {u v x y : List Int}, (∀ b ∈ u, b ≠ c) → (∀ b ∈ v, b ≠ c) → u ++ c :: x = v ++ c :: y → u = v ∧ x = y := by
  intro u
  induction u with
  | nil =>
    intro v x y _ hv h
    cases v with
    | nil => simp at h; exact ⟨rfl, h⟩
    | cons b v => simp at h; exact absurd h.1.symm (hv b (by simp))
  | cons a u ih =>
    intro v x y hu hv h
    cases v with
    | nil => simp at h; exact absurd h.1 (hu a (by simp))
    | cons b v =>
      simp only [List.cons_append, List.cons.injEq] at h
      obtain ⟨h1, h2⟩ := ih (fun z hz => hu z (by simp [hz])) (fun z hz => hv z (by simp [hz])) h.2
      exact ⟨by rw [h.1, h1], h2⟩
theorem bytesOf_inj {s t : ByteArray} (h : bytesOf s = bytesOf t) : s = t := by
  obtain ⟨⟨a⟩⟩ := s
  obtain ⟨⟨b⟩⟩ := t
  unfold bytesOf at h
  have : a = b := by
    refine List.map_inj_right (f := fun b : UInt8 => (b.toNat : Int)) ?_ |>.1 h
    intro x y hxy
    have hxy' : (x.toNat : Int) = (y.toNat : Int) := hxy
    have h1 : x.toNat = y.toNat := by omega
    exact UInt8.toNat_inj.1 h1
  rw [this]
theorem text_cut {s t : ByteArray} {x y : List Int} (h : textB s ++ x = textB t ++ y) : s = t ∧ x = y := by
  unfold textB at h
  simp only [List.append_assoc, List.singleton_append, List.cons_append, List.nil_append] at h
  obtain ⟨h1, h2⟩ := split_at 58 (fun b hb e => by have := numB_mem _ b hb; omega) (fun b hb e => by have := numB_mem _ b hb; omega) h
  have hs := numB_inj h1
  obtain ⟨h3, h4⟩ := List.append_inj h2 (by rw [bytesOf_length, bytesOf_length, hs])
  exact ⟨bytesOf_inj h3, h4⟩
theorem textB_head (s : ByteArray) : ∃ d r, textB s = d :: r ∧ 48 ≤ d ∧ d ≤ 57 := by
  unfold textB
  cases h : numB s.size with
  | nil => exact absurd h (numB_ne_nil _)
  | cons d r =>
    have := numB_mem s.size d (by rw [h]; simp)
    exact ⟨d, r ++ [58] ++ bytesOf s, by simp, this⟩
/-! ### keys -/
def partsK (l : List S35) : List (List Int) := l.flatMap fun x => [textB x.f0, textB x.f1]
theorem partsK_cons (x : S35) (l : List S35) : (partsK (x :: l)).flatten = textB x.f0 ++ (textB x.f1 ++ (partsK l).flatten) := by simp [partsK]
theorem flat_inj : ∀ (a b : List S35), (partsK a).flatten ++ [101] = (partsK b).flatten ++ [101] → a = b := by
  intro a
  induction a with
  | nil =>
    intro b h
    cases b with
    | nil => rfl
    | cons y b =>
      obtain ⟨d, r, hd, h1, h2⟩ := textB_head y.f0
      rw [partsK_cons, hd] at h
      simp [partsK] at h
  | cons x a ih =>
    intro b h
    cases b with
    | nil =>
      obtain ⟨d, r, hd, h1, h2⟩ := textB_head x.f0
      rw [partsK_cons, hd] at h
      simp [partsK] at h
    | cons y b =>
      rw [partsK_cons, partsK_cons, List.append_assoc, List.append_assoc, List.append_assoc, List.append_assoc] at h
      obtain ⟨e0, h⟩ := text_cut h
      obtain ⟨e1, h⟩ := text_cut h
      rw [s35_ext.2 ⟨e0, e1⟩, ih b h]
def keyL (l : List S35) : List Int := listB (partsK l)
def keyS (l : List S35) : ByteArray := strOfNums (keyL l)
theorem bytes_strOf {l : List Int} (h : ∀ b ∈ l, 0 ≤ b ∧ b ≤ 255) : bytesOf (strOfNums l) = l := by
  unfold bytesOf strOfNums
  simp only [List.map_map]
  conv => rhs; rw [← List.map_id l]
  refine List.map_congr_left fun b hb => ?_
  have := h b hb
  simp
  omega
theorem bytesOf_range (s : ByteArray) : ∀ b ∈ bytesOf s, 0 ≤ b ∧ b ≤ 255 := by
  intro b hb
  unfold bytesOf at hb
  obtain ⟨c, _, rfl⟩ := List.mem_map.1 hb
  have := c.toNat_lt
  omega
theorem textB_range (s : ByteArray) : ∀ b ∈ textB s, 0 ≤ b ∧ b ≤ 255 := by
  intro b hb
  unfold textB at hb
  rcases List.mem_append.1 hb with hb | hb
  · rcases List.mem_append.1 hb with hb | hb
    · have := numB_mem _ b hb; omega
    · rw [List.mem_singleton.1 hb]; omega
  · exact bytesOf_range s b hb
theorem keyL_range (l : List S35) : ∀ b ∈ keyL l, 0 ≤ b ∧ b ≤ 255 := by
  intro b hb
  unfold keyL listB at hb
  rcases List.mem_cons.1 hb with rfl | hb
  · omega
  rcases List.mem_append.1 hb with hb | hb
  · obtain ⟨p, hp, hb⟩ := List.mem_flatten.1 hb
    unfold partsK at hp
    obtain ⟨x, _, hp⟩ := List.mem_flatMap.1 hp
    simp at hp
    rcases hp with rfl | rfl
    · exact textB_range _ b hb
    · exact textB_range _ b hb
  · rw [List.mem_singleton.1 hb]; omega
theorem keyS_inj {a b : List S35} : keyS a = keyS b ↔ a = b := by
  constructor
  · intro h
    have h1 := congrArg bytesOf h
    unfold keyS at h1
    rw [bytes_strOf (keyL_range a), bytes_strOf (keyL_range b)] at h1
    unfold keyL listB at h1
    simp only [List.cons_append, List.cons.injEq, true_and] at h1
    exact flat_inj a b h1
  · rintro rfl; rfl
end Go.Proofs.YtjgommaikaeobaaDoor.G

namespace Go.Proofs.YtjgommaikaeobaaDoor.G
open Go.RowKit Go.Shelf Go.Lib Go.Proofs.YtjgommaikaeobaaDoorW.PrintWords Go.Proofs.YtjgommaikaeobaaDoor.PLabelSorts Go.Proofs.YtjgommaikaeobaaDoor.R Go.Proofs.YtjgommaikaeobaaDoor.L

/-- How great pairs are. -/
def muP (x : S35) : Nat := (x.f0.size + 1) + (x.f1.size + 1)
def mass (l : List S35) : Nat := (l.map muP).sum
theorem mass_cons (x : S35) (l : List S35) : mass (x :: l) = muP x + mass l := by simp [mass]
theorem mass_len (l : List S35) : 2 * l.length ≤ mass l := by
  induction l with
  | nil => simp [mass]
  | cons x l ih => rw [mass_cons, List.length_cons]; unfold muP; omega
theorem mass_mem {l : List S35} {x : S35} (h : x ∈ l) : muP x ≤ mass l := by
  induction l with
  | nil => cases h
  | cons y l ih =>
    rw [mass_cons]
    rcases List.mem_cons.1 h with rfl | h
    · omega
    · have := ih h; omega
theorem mass_drop (l : List S35) (j : Nat) : mass (l.drop j) ≤ mass l := by
  induction l generalizing j with
  | nil => simp
  | cons x l ih =>
    cases j with
    | zero => simp
    | succ j => rw [List.drop_succ_cons, mass_cons]; have := ih j; omega
theorem textB_len (s : ByteArray) (h : s.size ≤ 9223372036854775807) : (textB s).length ≤ 20 + s.size := by
  unfold textB
  have := itoa_len s.size h
  simp only [List.length_append, List.length_singleton, bytesOf_length, numB, List.length_map]
  omega
theorem partsK_len (l : List S35) : (partsK l).length = 2 * l.length := by
  induction l with
  | nil => rfl
  | cons x l ih => simp only [partsK, List.flatMap_cons, List.length_append, List.length_cons, List.length_nil] at ih ⊢; omega
theorem sumL_append (a b : List (List Int)) : sumL (a ++ b) = sumL a + sumL b := by simp [sumL]
theorem partsK_sum (l : List S35) (h : mass l ≤ 1048576) : sumL (partsK l) ≤ 21 * mass l := by
  induction l with
  | nil => simp [partsK, sumL]
  | cons x l ih =>
    rw [mass_cons] at h ⊢
    have h0 := textB_len x.f0 (by unfold muP at h; omega)
    have h1 := textB_len x.f1 (by unfold muP at h; omega)
    have h2 := ih (by omega)
    have e : partsK (x :: l) = [textB x.f0, textB x.f1] ++ partsK l := by simp [partsK]
    rw [e, sumL_append]
    simp only [sumL, List.map_cons, List.map_nil, List.sum_cons, List.sum_nil] at h2 ⊢
    unfold muP at h ⊢
    omega
theorem key_l0 (l : List S35) (hm : mass l ≤ 1048576) (d : Nat) : ∀ (k j : Nat) (acc : List (List Int)), j + d = l.length → d < k → acc = partsK (l.take j) → label_Key.l0 k acc l (l.length : Int) (j : Int) = some (keyS l) := by
  have hlen := mass_len l
  induction d with
  | zero =>
    intro k j acc h hk ha
    obtain ⟨k, rfl⟩ : ∃ m, k = m + 1 := ⟨k - 1, by omega⟩
    have e : acc = partsK l := by rw [ha, List.take_of_length_le (by omega)]
    simp only [label_Key.l0]
    rw [if_neg (by omega), e]
    have hp := partsK_len l
    have hs := partsK_sum l hm
    unfold BListG.f
    rw [if_pos ⟨by omega, by omega⟩]
    rfl
  | succ d ih =>
    intro k j acc h hk ha
    obtain ⟨k, rfl⟩ : ∃ m, k = m + 1 := ⟨k - 1, by omega⟩
    have hj : j < l.length := by omega
    have hx := mass_mem (List.getElem_mem hj)
    have hacc : acc.length ≤ 2097152 := by rw [ha, partsK_len, List.length_take]; omega
    have t0 : BTextG.f l[j].f0 = some (textB l[j].f0) := by unfold BTextG.f; rw [if_pos (by unfold muP at hx; omega)]
    have t1 : BTextG.f l[j].f1 = some (textB l[j].f1) := by unfold BTextG.f; rw [if_pos (by unfold muP at hx; omega)]
    simp only [label_Key.l0]
    rw [if_pos (by omega), if_pos (by omega), if_pos (by omega), rd35_get l j hj, t0, Option.bind_some, t1, Option.bind_some, Option.bind_some, if_pos (by simp only [List.length_cons, List.length_nil]; omega), wrap1 (n := l.length) (by omega) (by omega) (by omega), cast1]
    refine ih k (j + 1) _ (by omega) (by omega) ?_
    rw [List.take_succ_eq_append_getElem hj, ha]
    unfold partsK
    rw [List.flatMap_append]
    rfl
theorem key_f (l : List S35) (hm : mass l ≤ 1048576) (k : Nat) (hk : l.length < k) : label_Key.f k l = some (keyS l) := by
  unfold label_Key.f
  have := key_l0 l hm l.length k 0 [] (by omega) hk (by simp [partsK])
  rw [Int.natCast_zero] at this
  exact this
theorem sameB_self (l : List S35) : sameB l l = true := by simp [sameB]
/-! ### LabelApart -/
theorem pick_self (l : List S35) : pickL l (l.map (·.f0)) = l := by
  unfold pickL
  rw [List.filter_eq_self]
  intro x hx
  unfold inB
  rw [List.any_eq_true]
  exact ⟨x.f0, List.mem_map.2 ⟨x, hx, rfl⟩, by simp⟩
theorem pick_nil (l : List S35) : pickL l [] = [] := by
  unfold pickL
  rw [List.filter_eq_nil_iff]
  intro x _
  simp [inB]
theorem pick_twice (l : List S35) (names : List ByteArray) : pickL (pickL l names) names = pickL l names := by
  unfold pickL
  rw [List.filter_filter]
  simp
theorem apart_end (a b : List S35) (names : List ByteArray) (ha : mass a ≤ 1048576) (hb : mass b ≤ 1048576) (k : Nat) (hka : a.length < k) (hkb : b.length < k) :
    ((LPickG.f a names).bind fun t122 => ((label_Key.f k a).bind fun t125 => ((label_Key.f k b).bind fun t126 => ((LSameG.f a b).bind fun t127 => (if ((t125.toList == t126.toList) == t127) = true then ((LPickG.f a (a.map (·.f0))).bind fun t128 => ((LSameG.f t128 a).bind fun t131 => (if t131 = true then ((LPickG.f a ([] : List ByteArray)).bind fun t132 => (if (t132.length : Int) = 0 then ((LPickG.f t122 names).bind fun t135 => ((LSameG.f t135 t122).bind fun t138 => (if t138 = true then ((Awake.f).bind fun t139 => (some t139)) else (some false)))) else (some false))) else (some false)))) else (some false)))))) = some true := by
  have hla := mass_len a
  have hpl : ∀ names, (pickL a names).length ≤ a.length := fun names => List.length_filter_le _ _
  have p : ∀ (l : List S35) ns, l.length < 4398046511104 → LPickG.f l ns = some (pickL l ns) := fun l ns h => by unfold LPickG.f; rw [if_pos h]
  have hl := hpl names
  rw [p a names (by omega), Option.bind_some, key_f a ha k hka, Option.bind_some, key_f b hb k hkb, Option.bind_some]
  have hs : (((keyS a).toList == (keyS b).toList) == sameB a b) = true := by
    have : ((keyS a).toList == (keyS b).toList) = sameB a b := by
      unfold sameB
      rw [Bool.eq_iff_iff]
      simp only [beq_iff_eq, decide_eq_true_eq, tl_inj]
      exact keyS_inj
    rw [this]
    simp
  simp only [LSameG.f, Option.bind_some]
  rw [if_pos hs, p a _ (by omega), Option.bind_some, pick_self, sameB_self, if_pos rfl, p a _ (by omega), Option.bind_some, pick_nil, if_pos (by simp), p _ _ (by omega), Option.bind_some, pick_twice, sameB_self, if_pos rfl]
  rfl
theorem apart_l0 (a b : List S35) (names : List ByteArray) (ha : mass a ≤ 1048576) (hb : mass b ≤ 1048576) (d : Nat) : ∀ (k j : Nat) (acc : List ByteArray), j + d = a.length → d + a.length + b.length + 1 < k → acc = (a.take j).map (·.f0) → watchfirelaw02_LabelApart.l0 k a b names acc (j : Int) = some true := by
  have hla := mass_len a
  induction d with
  | zero =>
    intro k j acc h hk he
    obtain ⟨k, rfl⟩ : ∃ m, k = m + 1 := ⟨k - 1, by omega⟩
    have e : acc = a.map (·.f0) := by rw [he, List.take_of_length_le (by omega)]
    simp only [watchfirelaw02_LabelApart.l0]
    rw [if_neg (by omega), e]
    exact apart_end a b names ha hb k (by omega) (by omega)
  | succ d ih =>
    intro k j acc h hk he
    obtain ⟨k, rfl⟩ : ∃ m, k = m + 1 := ⟨k - 1, by omega⟩
    have hj : j < a.length := by omega
    have hacc : acc.length ≤ a.length := by rw [he, List.length_map, List.length_take]; omega
    simp only [watchfirelaw02_LabelApart.l0]
    rw [if_pos (by omega), if_pos (by omega), if_pos (by omega), rd35_get a j hj, wrap1 (n := a.length) (by omega) (by omega) (by omega), cast1]
    refine ih k (j + 1) _ (by omega) (by omega) ?_
    rw [List.take_succ_eq_append_getElem hj, he, List.map_append]
    rfl
theorem labelApart_walk (A : Option Addr) (c : Nat) (a : List S35) (B : Option Addr) (q : Nat) (b : List S35) (D : Option Addr) (e : Nat) (names : List ByteArray) (w : World) (h : Kd.C k35 w A a.length a) (hc : a.length ≤ c) (h1 : Kd.C k35 w B b.length b) (hc1 : b.length ≤ q) (h2 : Kd.C Kd.string w D names.length names) (hc2 : names.length ≤ e) (hT : TabS w) (ha : mass a ≤ 1048576) (hb : mass b ≤ 1048576) :
    Calls Tryd.prog 7 #[.slice A a.length c, .slice B b.length q, .slice D names.length e] w fun e w' => e = .returned (.bool true) ∧ Below w.heap.size w w' := by
  have hk := apart_l0 a b names ha hb a.length (a.length + a.length + b.length + 2) 0 [] (by omega) (by omega) (by simp)
  rw [Int.natCast_zero] at hk
  exact watchfirelaw02_LabelApart.calls _ A c a B q b D e names true w h hc h1 hc1 h2 hc2 hT hk
end Go.Proofs.YtjgommaikaeobaaDoor.G

namespace Go.Proofs.YtjgommaikaeobaaDoor.G
open Go.RowKit Go.Shelf Go.Lib Go.Proofs.YtjgommaikaeobaaDoorW.PrintWords Go.Proofs.YtjgommaikaeobaaDoor.PLabelSorts Go.Proofs.YtjgommaikaeobaaDoor.R Go.Proofs.YtjgommaikaeobaaDoor.L
theorem pow_data : (Rows.laid_internal_strconv_uint64pow10 : DataW Unit) = Lib.tabData .u64 Lib.pow10Tab := by kernel_rfl
theorem pow_of {W : World} {rest : List (String × DataW Unit)} (h : laidMet Tryd.prog (("internal/strconv.uint64pow10", Rows.laid_internal_strconv_uint64pow10) :: rest) W) : Lib.TabIs Tryd.prog W "internal/strconv.uint64pow10" .u64 Lib.pow10Tab := by
  rw [pow_data] at h
  exact Lib.tabIs_of_head (g := 1) (by kernel_rfl) (by kernel_rfl) Tryd.underlying116 Tryd.underlying86 (by kernel_rfl) (by kernel_rfl) h
theorem openPairsM {H : Type} {enc : TypeId × Value → H} {w : World} {base : Nat} {spare : Nat → Bool} {held : Bool} : OpnM.OpensM enc Tryd.prog w base spare held 22 (Kd.slice 35 k35) (fun l => (∀ x ∈ l, x.f0.size ≤ maxLen ∧ x.f1.size ≤ maxLen) ∧ l.length ≤ maxLen) (fun l => mass l + 1) :=
  OpnM.OpensM.slice 35 Tryd.underlying22 (by kernel_rfl)
    (OpnM.OpensM.iso (OpnM.OpensM.struct Tryd.underlying35 (by kernel_rfl) (OpnM.OpTM.cons (off := 1) (OpnM.OpensM.string Tryd.underlying9) (by kernel_rfl) rfl (OpnM.OpTM.one (OpnM.OpensM.string Tryd.underlying9) (by kernel_rfl))))
      (fun x : S35 => (x.f0, x.f1)) (fun p => ⟨p.1, p.2⟩) (fun _ => rfl))
end Go.Proofs.YtjgommaikaeobaaDoor.G
