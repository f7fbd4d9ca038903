/- Whether a text is a name: the program's answer and the document's are one, told plainly. -/
import Derived.Test.YtjgommaikaeobaaGreatDoorLA1
import Derived.Test.YtjgommaikaeobaaGreatDoorLN1
import Derived.Test.YtjgommaikaeobaaGreatDoorLay
set_option linter.unusedVariables false
set_option linter.unusedSimpArgs false
namespace Go.Proofs.YtjgommaikaeobaaGreatDoor.L
open Go.RowKit Go.Proofs.YtjgommaikaeobaaGreatDoorW.PrintWords Go.Proofs.YtjgommaikaeobaaGreatDoor.P

def okC (c : Int) : Bool := decide (c = 95) || (decide (97 ≤ c) && decide (c ≤ 122))
def dig (c : Int) : Bool := decide (48 ≤ c) && decide (c ≤ 57)
def allF (g : Nat → Bool) : Nat → Nat → Bool
  | _, 0 => true
  | j, d + 1 => g j && allF g (j + 1) d
def gW (s : ByteArray) (i : Nat) : Bool := okC (bt s (i : Int)) || (!decide (i = 0) && dig (bt s (i : Int)))
def gL (s : ByteArray) (i : Nat) : Bool := okC (bt s (i : Int)) || dig (bt s (i : Int))
def nameB (s : ByteArray) : Bool := allF (gW s) 0 s.size && (decide (1 ≤ s.size) && decide (s.size ≤ 16))
theorem cast1 (j : Nat) : ((j : Int) + 1) = ((j + 1 : Nat) : Int) := by omega
theorem wrap1 {i : Int} {n : Nat} (h0 : 0 ≤ i) (h1 : i < n) (hn : n ≤ 9223372036854775807) : wrap64 (i + 1) = i + 1 := by unfold wrap64; omega

theorem wname_l0 (s : ByteArray) (hs : s.size ≤ 9223372036854775807) (d : Nat) : ∀ (k j : Nat), j + d = s.size → d < k → WName.l0 k s (j : Int) = some (allF (gW s) j d && (decide (1 ≤ s.size) && decide (s.size ≤ 16))) := by
  induction d with
  | zero =>
    intro k j h hk
    obtain ⟨k, rfl⟩ : ∃ m, k = m + 1 := ⟨k - 1, by omega⟩
    simp only [WName.l0]
    rw [if_neg (by omega)]
    by_cases h1 : (s.size : Int) ≥ 1
    · rw [if_pos h1]
      have : 1 ≤ s.size := by omega
      simp [allF, this]
      omega
    · rw [if_neg h1]
      have : ¬ 1 ≤ s.size := by omega
      simp [allF, this]
  | succ d ih =>
    intro k j h hk
    obtain ⟨k, rfl⟩ : ∃ m, k = m + 1 := ⟨k - 1, by omega⟩
    simp only [WName.l0]
    rw [if_pos (by omega), if_pos (by omega), wrap1 (n := s.size) (by omega) (by omega) (by omega), cast1]
    have hgood : gW s j = true → WName.l0 k s ((j + 1 : Nat) : Int) = some (allF (gW s) j (d + 1) && (decide (1 ≤ s.size) && decide (s.size ≤ 16))) := fun hg => by
      rw [ih k (j + 1) (by omega) (by omega)]
      simp [allF, hg]
    have hbad : gW s j = false → some false = some (allF (gW s) j (d + 1) && (decide (1 ≤ s.size) && decide (s.size ≤ 16))) := fun hg => by simp [allF, hg]
    obtain ⟨c, hc⟩ : ∃ c, c = bt s (j : Int) := ⟨_, rfl⟩
    have hg : gW s j = (okC c || (!decide (j = 0) && dig c)) := by rw [hc]; rfl
    rw [← hc]
    rw [hg] at hgood hbad
    clear hg hc ih
    unfold okC dig at hgood hbad
    repeat' split
    all_goals first | exact hgood (by simp; omega) | exact hbad (by simp; omega)
theorem wname_f (s : ByteArray) (hs : s.size ≤ 9223372036854775807) : WName.f (s.size + 1) s = some (nameB s) := by
  have := wname_l0 s hs s.size (s.size + 1) 0 (by omega) (by omega)
  simpa [nameB, WName.f] using this
theorem wname_any (s : ByteArray) (hs : s.size ≤ 9223372036854775807) (w : World) : Calls Tryz.prog 52 #[.string s] w fun e w' => e = .returned (.bool (nameB s)) ∧ Drawn0 w w' := WName.calls _ s _ w (wname_f s hs)

theorem lname_l0 (s : ByteArray) (hs : s.size ≤ 9223372036854775807) (d : Nat) : ∀ (k j : Nat), j + d = s.size → d < k → LName.l0 k s (s.size : Int) (j : Int) = some (allF (gL s) j d) := by
  induction d with
  | zero =>
    intro k j h hk
    obtain ⟨k, rfl⟩ : ∃ m, k = m + 1 := ⟨k - 1, by omega⟩
    simp only [LName.l0]
    rw [if_neg (by omega)]
    rfl
  | succ d ih =>
    intro k j h hk
    obtain ⟨k, rfl⟩ : ∃ m, k = m + 1 := ⟨k - 1, by omega⟩
    simp only [LName.l0]
    rw [if_pos (by omega), if_pos (by omega), if_pos (by omega), wrap1 (n := s.size) (by omega) (by omega) (by omega), cast1]
    have hgood : gL s j = true → LName.l0 k s (s.size : Int) ((j + 1 : Nat) : Int) = some (allF (gL s) j (d + 1)) := fun hg => by
      rw [ih k (j + 1) (by omega) (by omega)]
      simp [allF, hg]
    have hbad : gL s j = false → some false = some (allF (gL s) j (d + 1)) := fun hg => by simp [allF, hg]
    obtain ⟨c, hc⟩ : ∃ c, c = bt s (j : Int) := ⟨_, rfl⟩
    have hg : gL s j = (okC c || dig c) := by rw [hc]; rfl
    rw [← hc]
    rw [hg] at hgood hbad
    clear hg hc ih
    unfold okC dig at hgood hbad
    repeat' split
    all_goals first | exact hgood (by simp; omega) | exact hbad (by simp; omega)
theorem allF_congr {g g' : Nat → Bool} : ∀ (d j : Nat), (∀ i, j ≤ i → i < j + d → g i = g' i) → allF g j d = allF g' j d
  | 0, _, _ => rfl
  | d + 1, j, h => by
    unfold allF
    rw [h j (Nat.le_refl _) (by omega), allF_congr d (j + 1) (fun i h1 h2 => h i (by omega) (by omega))]
theorem lname_f (s : ByteArray) : LName.f (s.size + 2) s = some (nameB s) := by
  have hl : s.toList.length = s.size := by rw [ByteArray.toList_eq]; simp
  unfold LName.f
  by_cases h0 : s.toList = ([] : List UInt8)
  · rw [if_pos h0]
    have : s.size = 0 := by rw [← hl, h0]; rfl
    simp [LName.j0, nameB, this]
  · rw [if_neg h0]
    have h1 : 1 ≤ s.size := by
      rcases Nat.eq_zero_or_pos s.size with h | h
      · exact absurd (List.eq_nil_of_length_eq_zero (by rw [hl, h])) h0
      · exact h
    by_cases h2 : (s.size : Int) > 16
    · rw [if_pos h2]
      have : ¬ s.size ≤ 16 := by omega
      simp [LName.j0, nameB, this]
    · rw [if_neg h2, if_pos (by omega)]
      have h3 : s.size ≤ 16 := by omega
      have hrest : dig (bt s 0) = false → allF (gL s) 0 s.size = nameB s := fun hd => by
        unfold nameB
        rw [show (decide (1 ≤ s.size) && decide (s.size ≤ 16)) = true by simp [h1, h3], Bool.and_true]
        refine allF_congr _ _ (fun i _ _ => ?_)
        unfold gL gW
        by_cases hi : i = 0
        · subst hi
          simp [hd]
        · simp [hi]
      have hgo : LName.l0 (s.size + 1) s (s.size : Int) 0 = some (allF (gL s) 0 s.size) := lname_l0 s (by omega) s.size (s.size + 1) 0 (by omega) (by omega)
      by_cases h4 : bt s 0 ≥ 48
      · rw [if_pos h4]
        by_cases h5 : bt s 0 ≤ 57
        · have hd : dig (bt s 0) = true := by simp [dig]; omega
          have hk : okC (bt s 0) = false := by simp [okC]; omega
          obtain ⟨n, hn⟩ : ∃ n, s.size = n + 1 := ⟨s.size - 1, by omega⟩
          have hf : allF (gW s) 0 s.size = false := by
            rw [hn]
            simp [allF, gW, hk, hd]
          simp [LName.j0, h5, nameB, hf]
        · have hd : dig (bt s 0) = false := by simp [dig]; omega
          simp only [LName.j0]
          rw [if_neg (by simp; omega), hgo, hrest hd]
      · rw [if_neg h4]
        have hd : dig (bt s 0) = false := by simp [dig]; omega
        simp only [LName.j0]
        rw [if_neg (by simp), hgo, hrest hd]
theorem lname_any (s : ByteArray) (w : World) : Calls Tryz.prog 49 #[.string s] w fun e w' => e = .returned (.bool (nameB s)) ∧ Drawn0 w w' := LName.calls _ s _ w (lname_f s)
/-! ### errors of pairs -/
def longP (x : S37) : Bool := decide (64 < x.f1.size)
def badP (x : S37) : Bool := decide (x.f1.size = 0) || !nameB x.f0
/-- The error of pairs, but for their order. -/
def partsE (l : List S37) : Int := if decide (8 < l.length) || l.any longP then 5 else if l.any badP then 6 else 0
theorem rd35_get (l : List S37) (j : Nat) (h : j < l.length) : rd_T37 l (j : Int) = l[j] := by simp [rd_T37, h]
theorem nil_size {s : ByteArray} : s.toList = ([] : List UInt8) ↔ s.size = 0 := by
  have hl : s.toList.length = s.size := by rw [ByteArray.toList_eq]; simp
  constructor
  · intro h; rw [← hl, h]; rfl
  · intro h; exact List.eq_nil_of_length_eq_zero (by rw [hl, h])
/-- The texts of pairs are as long as texts may be. -/
def Fit (l : List S37) : Prop := ∀ x ∈ l, x.f0.size ≤ 9223372036854775807 ∧ x.f1.size ≤ 9223372036854775807
theorem wparts_l1 (l : List S37) (hl : l.length ≤ 8) (hf : Fit l) (K : Nat) (hK : ∀ x ∈ l, x.f0.size < K) (d : Nat) : ∀ (k j : Nat), j + d = l.length → d + K < k → Wparts.l1 k l (j : Int) = some (if (l.drop j).any badP then 6 else 0) := by
  induction d with
  | zero =>
    intro k j h hk
    obtain ⟨k, rfl⟩ : ∃ m, k = m + 1 := ⟨k - 1, by omega⟩
    simp only [Wparts.l1]
    rw [if_neg (by omega), List.drop_eq_nil_of_le (by omega)]
    simp
  | succ d ih =>
    intro k j h hk
    obtain ⟨k, rfl⟩ : ∃ m, k = m + 1 := ⟨k - 1, by omega⟩
    simp only [Wparts.l1]
    have hj : j < l.length := by omega
    have hm := List.getElem_mem hj
    rw [if_pos (by omega), if_pos (by omega), rd35_get l j hj, wrap1 (n := l.length) (by omega) (by omega) (by omega), cast1, ih k (j + 1) (by omega) (by omega), List.drop_eq_getElem_cons hj]
    have hn : WName.f k l[j].f0 = some (nameB l[j].f0) := by
      have h1 := wname_l0 l[j].f0 (hf _ hm).1 l[j].f0.size k 0 (by omega) (by have := hK _ hm; omega)
      simpa [nameB, WName.f] using h1
    rw [hn]
    simp only [Option.bind_some]
    generalize l.drop (j + 1) = t
    generalize l[j] = x
    cases hb : nameB x.f0 with
    | false => simp [badP, hb]
    | true =>
      rw [if_pos rfl]
      by_cases h0 : x.f1.toList = ([] : List UInt8)
      · rw [if_pos h0]
        simp [badP, nil_size.1 h0]
      · rw [if_neg h0]
        have : ¬ x.f1.size = 0 := fun e => h0 (nil_size.2 e)
        simp [badP, hb, this]
theorem wparts_l0 (l : List S37) (hl : l.length ≤ 8) (hf : Fit l) (K : Nat) (hK : ∀ x ∈ l, x.f0.size < K) (d : Nat) : ∀ (k j : Nat), j + d = l.length → d + (l.length + K) + 1 < k → Wparts.l0 k l (j : Int) = some (if (l.drop j).any longP then 5 else if l.any badP then 6 else 0) := by
  induction d with
  | zero =>
    intro k j h hk
    obtain ⟨k, rfl⟩ : ∃ m, k = m + 1 := ⟨k - 1, by omega⟩
    simp only [Wparts.l0]
    rw [if_neg (by omega), List.drop_eq_nil_of_le (by omega)]
    have := wparts_l1 l hl hf K hK l.length k 0 (by omega) (by omega)
    simpa using this
  | succ d ih =>
    intro k j h hk
    obtain ⟨k, rfl⟩ : ∃ m, k = m + 1 := ⟨k - 1, by omega⟩
    simp only [Wparts.l0]
    have hj : j < l.length := by omega
    rw [if_pos (by omega), if_pos (by omega), rd35_get l j hj, wrap1 (n := l.length) (by omega) (by omega) (by omega), cast1, ih k (j + 1) (by omega) (by omega), List.drop_eq_getElem_cons hj]
    generalize l.any badP = bb
    generalize l.drop (j + 1) = t
    generalize l[j] = x
    by_cases h64 : ((x.f1).size : Int) > 64
    · rw [if_pos h64]
      have : 64 < x.f1.size := by omega
      simp [longP, this]
    · rw [if_neg h64]
      have : ¬ 64 < x.f1.size := by omega
      simp [longP, this]
theorem wparts_f (l : List S37) (hf : Fit l) : ∃ k, Wparts.f k l = some (partsE l) := by
  by_cases h8 : (l.length : Int) > 8
  · exact ⟨0, by unfold Wparts.f partsE; rw [if_pos h8]; simp [show 8 < l.length by omega]⟩
  · have h : ¬ 8 < l.length := by omega
    obtain ⟨K, hK⟩ : ∃ K, ∀ x ∈ l, x.f0.size < K := by
      clear h8 h hf
      induction l with
      | nil => exact ⟨0, fun x hx => by cases hx⟩
      | cons y l ih =>
        obtain ⟨K, hK⟩ := ih
        refine ⟨K + y.f0.size + 1, fun x hx => ?_⟩
        rcases List.mem_cons.1 hx with rfl | hx
        · omega
        · have := hK x hx; omega
    refine ⟨l.length + (l.length + K) + 2, ?_⟩
    unfold Wparts.f partsE
    rw [if_neg h8]
    have := wparts_l0 l (by omega) hf K hK l.length (l.length + (l.length + K) + 2) 0 (by omega) (by omega)
    simpa [h] using this
theorem wparts_any (A : Option Addr) (c : Nat) (l : List S37) (w : World) (hc : Kd.C k37 w A l.length l) (hcap : l.length ≤ c) (hf : Fit l) :
    Calls Tryz.prog 39 #[.slice A l.length c] w fun e w' => e = .returned (.int .i64 (partsE l)) ∧ Drawn0 w w' := by
  obtain ⟨k, hk⟩ := wparts_f l hf
  exact Wparts.calls k A c l _ w hc hcap hk
end Go.Proofs.YtjgommaikaeobaaGreatDoor.L

namespace Go.Proofs.YtjgommaikaeobaaGreatDoor.L
open Go.RowKit Go.Shelf Go.Lib Go.Proofs.YtjgommaikaeobaaGreatDoorW.PrintWords Go.Proofs.YtjgommaikaeobaaGreatDoor.P

instance : Inhabited S37 := ⟨z37⟩
def enc35 (x : S37) : List Value := [.string x.f0, .string x.f1]
/-- Pairs that are read: their cells, one by one. -/
theorem pairs_cells {w : World} {A : Option Addr} {l : List S37} (h : Kd.C k37 w A l.length l) (hp : 0 < l.length) :
    ∃ b off, A = some ⟨b, off, none⟩ ∧ b < w.heap.size ∧ ∀ j, j < l.length → ∀ i v, (enc35 l[j]!)[i]? = some v → w.cell? ⟨b, off + j * 2 + i, none⟩ = some v := by
  obtain ⟨ad, c, rfl, _, hK, hc0⟩ := Kd.C_get h z37 0 (by omega) (by omega)
  obtain rfl := k37_open hK
  have hcell := hc0 0 _ rfl
  obtain ⟨b, off, sp⟩ := ad
  cases sp with
  | some s =>
    exfalso
    simp only [World.cell?, Addr.add] at hcell
    split at hcell <;> simp_all
  | none =>
    refine ⟨b, off, rfl, ?_, fun j hj i v hv => ?_⟩
    · have h1 := World.block_lt_of_cell? w _ hcell
      have h2 : ((⟨b, off, none⟩ : Addr).add ((0 : Int).toNat * k37.sz + 0)).block = b := by unfold Addr.add; split <;> rfl
      rw [h2] at h1
      exact h1
    · obtain ⟨ad2, c2, e2, _, hK2, hc2⟩ := Kd.C_get h z37 (j : Int) (by omega) (by omega)
      obtain rfl : (⟨b, off, none⟩ : Addr) = ad2 := Option.some.inj e2
      obtain rfl := k37_open hK2
      have h3 := hc2 i v (by
        rw [← hv]
        have : l[j]! = l.getD (j : Int).toNat z37 := by simp [hj]
        rw [this]
        rfl)
      have hsz : k37.sz = 2 := rfl
      rw [hsz, Int.toNat_natCast, add_at] at h3
      rw [Nat.add_assoc]
      exact h3

theorem long_pred (w : World) : PredBelow Tryz.prog 47 #[] (fun x => .agg (enc35 x).toArray) longP w := fun W x hb => by
  show Calls Tryz.prog 47 #[.agg #[.string x.f0, .string x.f1]] W _
  have hB := hb.alloc hb.size (Obj.cells #[Value.string x.f0, Value.string x.f1] 37 (0, 0))
  have hr : longP x = decide ((64 : Int) < x.f1.size) := by unfold longP; congr 1; simp; omega
  rw [hr]
  go_enter Tryz.func47, Tryz.ntmps47
  go_wp2
  all_goals (go_ret; exact ⟨by simp_all, hB⟩)
theorem bad_pred (w : World) : PredBelow Tryz.prog 48 #[] (fun x => .agg (enc35 x).toArray) badP w := fun W x hb => by
  show Calls Tryz.prog 48 #[.agg #[.string x.f0, .string x.f1]] W _
  have hB := Aside0.mk (hb.alloc hb.size (Obj.cells #[Value.string x.f0, Value.string x.f1] 37 (0, 0)))
  by_cases hs : x.f1.toList = ([] : List UInt8)
  · have hr : badP x = true := by unfold badP; simp [nil_size.1 hs]
    rw [hr]
    go_enter Tryz.func48, Tryz.ntmps48
    go_wp2_with (fail)
    go_ret
    exact ⟨rfl, hB.out⟩
  · have h0 : ¬ x.f1.size = 0 := fun e => hs (nil_size.2 e)
    have hr : badP x = !nameB x.f0 := by unfold badP; simp [h0]
    rw [hr]
    have hN := Aside0.mk (lname_any x.f0 (W.alloc (Obj.cells #[Value.string x.f0, Value.string x.f1] 37 (0, 0))))
    generalize nameB x.f0 = nb at hN ⊢
    go_enter Tryz.func48, Tryz.ntmps48
    go_wp2_with (fail)
    refine hN.out.mono ?_
    rintro e w' ⟨rfl, hd⟩
    have HB := Aside0.mk (below_then hB.out hB.out.size hd.below)
    clear hd hN
    go_wp2_with (fail)
    go_ret
    have e0 : x.f1.toList.isEmpty = false := by
      cases hq : x.f1.toList with
      | nil => exact absurd hq hs
      | cons _ _ => rfl
    exact ⟨by simp [e0], HB.out⟩

theorem eg41 : ∀ args w, (callFunc 47 args).run Tryz.prog w = .ok (.enter 47 args) w := enters_of Tryz.func47 (by kernel_rfl) rfl
theorem eg42 : ∀ args w, (callFunc 48 args).run Tryz.prog w = .ok (.enter 48 args) w := enters_of Tryz.func48 (by kernel_rfl) rfl
/-- ContainsFunc of no pairs. -/
theorem cf_nil (A : Option Addr) (c : Nat) (f : Value) (w : World) : Calls Tryz.prog 50 #[.slice A 0 c, f] w fun e w' => e = .returned (.bool false) ∧ w' = w := by
  have h53 : Calls Tryz.prog 60 #[.slice A 0 c, f] w fun e w' => e = .returned (.int .i64 (-1)) ∧ w' = w := by
    go_enter Tryz.func60, Tryz.ntmps60
    go_wp2_with (fail)
    go_loopg [8] 1 (fun kq v wr => v = .int .i64 0 ∧ wr = w)
    case atStart => exact ⟨rfl, rfl⟩
    case round =>
      obtain ⟨rfl, rfl⟩ := hrel
      go_wp2
      go_ret
      exact ⟨rfl, rfl⟩
  go_enter Tryz.func50, Tryz.ntmps50
  go_wp2_with (fail)
  refine h53.mono ?_
  rintro e w' ⟨rfl, rfl⟩
  go_wp2_with (fail)
  go_ret
  exact ⟨rfl, rfl⟩
theorem cf_any (g : Nat) (eg : ∀ args w, (callFunc g args).run Tryz.prog w = .ok (.enter g args) w) (p : S37 → Bool) (hp : ∀ w, PredBelow Tryz.prog g #[] (fun x => .agg (enc35 x).toArray) p w) (A : Option Addr) (c : Nat) (l : List S37) (w : World) (h : Kd.C k37 w A l.length l) :
    Calls Tryz.prog 50 #[.slice A l.length c, .func (.func g) #[] #[]] w fun e w' => e = .returned (.bool (l.any p)) ∧ Below w.heap.size w w' := by
  by_cases hl : 0 < l.length
  · obtain ⟨b, off, rfl, hb, hc⟩ := pairs_cells h hl
    have := AnyQ.slices_ContainsFunc Tryz.layCF 2 Tryz.isAgg37 Tryz.sizeOf37 enc35 (fun _ => rfl) p g #[] eg b off l.length c l w (hp w) (Nat.le_refl _) h.2.1 hb hc
    rw [List.take_length] at this
    exact this
  · have e : l = [] := List.eq_nil_of_length_eq_zero (by omega)
    subst e
    exact (cf_nil A c _ w).mono fun _ _ ⟨he, hw⟩ => ⟨he, by rw [hw]; exact Below.refl _ _⟩

set_option maxHeartbeats 1000000 in
theorem parts_any (A : Option Addr) (c : Nat) (l : List S37) (w : World) (h : Kd.C k37 w A l.length l) :
    Calls Tryz.prog 34 #[.slice A l.length c] w fun e w' => e = .returned (.int .i64 (partsE l)) ∧ Below w.heap.size w w' := by
  by_cases h8 : (8 : Int) < l.length
  · have hr : partsE l = 5 := by unfold partsE; simp [show 8 < l.length by omega]
    rw [hr]
    go_enter Tryz.func34, Tryz.ntmps34
    go_wp2_with (fail)
    go_ret
    exact ⟨rfl, Below.refl _ _⟩
  · have h8b : decide ((8 : Int) < l.length) = false := decide_eq_false h8
    have H1 := Aside0.mk (cf_any 47 eg41 longP long_pred A c l w h)
    have H := Aside0.mk h
    cases hlo : l.any longP with
    | true =>
      have hr : partsE l = 5 := by unfold partsE; simp [hlo]
      rw [hr]
      rw [hlo] at H1
      clear h hlo hr
      go_enter Tryz.func34, Tryz.ntmps34
      go_wp2_with (fail)
      refine H1.out.mono ?_
      rintro e w1 ⟨rfl, hb⟩
      have HB := Aside0.mk hb
      clear hb H1
      go_wp2_with (fail)
      go_ret
      exact ⟨rfl, HB.out⟩
    | false =>
      have hr : partsE l = if l.any badP then 6 else 0 := by unfold partsE; simp [hlo, show ¬ 8 < l.length by omega]
      rw [hr]
      rw [hlo] at H1
      clear h hlo hr
      cases hbd : l.any badP with
      | true =>
        rw [if_pos rfl]
        go_enter Tryz.func34, Tryz.ntmps34
        go_wp2_with (fail)
        refine H1.out.mono ?_
        rintro e w1 ⟨rfl, hb⟩
        have HB := Aside0.mk hb
        have H2 := Aside0.mk (cf_any 48 eg42 badP bad_pred A c l w1 (Kd.C_below H.out hb))
        rw [hbd] at H2
        clear hb H1 hbd
        go_wp2_with (fail)
        refine H2.out.mono ?_
        rintro e w2 ⟨rfl, hb⟩
        have HB2 := Aside0.mk (below_then HB.out HB.out.size hb)
        clear hb H2
        go_wp2_with (fail)
        go_ret
        exact ⟨rfl, HB2.out⟩
      | false =>
        rw [if_neg (by simp)]
        go_enter Tryz.func34, Tryz.ntmps34
        go_wp2_with (fail)
        refine H1.out.mono ?_
        rintro e w1 ⟨rfl, hb⟩
        have HB := Aside0.mk hb
        have H2 := Aside0.mk (cf_any 48 eg42 badP bad_pred A c l w1 (Kd.C_below H.out hb))
        rw [hbd] at H2
        clear hb H1 hbd
        go_wp2_with (fail)
        refine H2.out.mono ?_
        rintro e w2 ⟨rfl, hb⟩
        have HB2 := Aside0.mk (below_then HB.out HB.out.size hb)
        clear hb H2
        go_wp2_with (fail)
        go_ret
        exact ⟨rfl, HB2.out⟩
end Go.Proofs.YtjgommaikaeobaaGreatDoor.L
