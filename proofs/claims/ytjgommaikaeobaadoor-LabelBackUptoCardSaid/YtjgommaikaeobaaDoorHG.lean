/- What is laid is read, what is read was laid: plain laws; LabelBack's plain law. -/
import Derived.Test.YtjgommaikaeobaaDoorV3
import Derived.Test.YtjgommaikaeobaaDoorHD
import Derived.Test.YtjgommaikaeobaaDoorGC
import Derived.Stop.LaidErr
set_option linter.unusedVariables false
set_option linter.unusedSimpArgs false
namespace Go.Proofs.YtjgommaikaeobaaDoor.G
open Go.RowKit Go.Shelf Go.Lib Go.Proofs.YtjgommaikaeobaaDoorW.PrintWords Go.Proofs.YtjgommaikaeobaaDoor.PLabelSorts Go.Proofs.YtjgommaikaeobaaDoor.R Go.Proofs.YtjgommaikaeobaaDoor.L Go.Proofs.YtjgommaikaeobaaDoor.RD

def Byt (l : List Int) : Prop := ∀ b ∈ l, 0 ≤ b ∧ b ≤ 255
theorem strOf_data {l : List Int} (h : Byt l) : (strOfNums l).data.toList.map (fun b => (b.toNat : Int)) = l := bytes_strOf h
theorem strOf_size (l : List Int) : (strOfNums l).size = l.length := by simp [strOfNums, ByteArray.size]
theorem strOf_bytes (s : ByteArray) : strOfNums (bytesOf s) = s := bytesOf_inj (bytes_strOf (bytesOf_range s))
/-- A text that is read was laid so. -/
theorem textF_ok {bs : List Int} {e most : Int} (hb : Byt bs) {t : ByteArray} {r : List Int} (h : textF bs e most = (t, r, 0)) : e = 0 ∧ bs = textB t ++ r ∧ (t.size : Int) ≤ most := by
  unfold textF at h
  by_cases he : e ≠ 0
  · rw [if_pos he] at h
    injection h with _ h
    injection h with _ h
    exact absurd h he
  rw [if_neg he] at h
  have he0 : e = 0 := by simpa using he
  refine ⟨he0, ?_⟩
  cases bs with
  | nil => injection h with _ h; injection h with _ h; cases h
  | cons b bt =>
    simp only [] at h
    by_cases hd : b < 48 ∨ 57 < b
    · rw [if_pos hd] at h; injection h with _ h; injection h with _ h; cases h
    rw [if_neg hd] at h
    obtain ⟨u, hu⟩ : ∃ u, u = untilF (b :: bt) 0 58 10 := ⟨_, rfl⟩
    rw [← hu] at h
    obtain ⟨v, ok, q, e2⟩ := u
    cases ok with
    | false =>
      simp only [if_true] at h
      injection h with _ h; injection h with _ h
      subst h
      exfalso
      unfold untilF at hu
      split at hu
      · injection hu with _ hu; injection hu with _ hu; injection hu with _ hu
        split at hu <;> cases hu
      · split at hu
        · injection hu with _ hu; injection hu with hu _; cases hu
        · injection hu with _ hu; injection hu with _ hu; injection hu with _ hu; cases hu
    | true =>
      obtain ⟨hv0, hv1⟩ := until_nat (by omega) (by omega) hu.symm
      obtain ⟨i, hi, his, hne, hnum, hq, he2⟩ := untilF_true hu.symm
      obtain ⟨m, rfl⟩ := Int.eq_ofNat_of_zero_le hv0
      simp only [Bool.true_eq_false, if_false] at h
      by_cases h1 : (1000000000 : Int) < (m : Int)
      · rw [if_pos h1] at h; injection h with _ h; injection h with _ h; cases h
      rw [if_neg h1] at h
      by_cases h2 : most < (m : Int)
      · rw [if_pos h2] at h; injection h with _ h; injection h with _ h; cases h
      rw [if_neg h2] at h
      by_cases h3 : (q.length : Int) < (m : Int)
      · rw [if_pos h3] at h; injection h with _ h; injection h with _ h; cases h
      rw [if_neg h3] at h
      injection h with ht h; injection h with hr _
      rw [Int.toNat_natCast] at ht hr
      have hbq : Byt q := fun x hx => hb x (by rw [hq] at hx; exact List.mem_of_mem_drop hx)
      have hsz : t.size = m := by rw [← ht, strOf_size, List.length_take]; omega
      have hbt : bytesOf t = q.take m := by rw [← ht]; exact bytes_strOf (fun x hx => hbq x (List.mem_of_mem_take hx))
      obtain ⟨hn1, _, _⟩ := numOf_itoa hnum
      have hpre : (b :: bt).take i = numB (m : Nat) := by
        have h5 := strOf_data (l := (b :: bt).take i) (fun x hx => hb x (List.mem_of_mem_take hx))
        rw [hn1] at h5
        exact h5.symm
      refine ⟨?_, by rw [hsz]; omega⟩
      have hil : i < (b :: bt).length := by rw [List.length_take] at hi; omega
      have hget : (b :: bt)[i] = 58 := by
        rw [List.getElem?_take_of_lt (by rw [List.length_take] at hi; omega), List.getElem?_eq_getElem hil] at his
        exact Option.some.inj his
      have e1 : b :: bt = (b :: bt).take i ++ (58 :: (b :: bt).drop (i + 1)) := by
        conv => lhs; rw [← List.take_append_drop i (b :: bt)]
        rw [List.drop_eq_getElem_cons hil, hget]
      rw [e1, hpre, ← hq]
      unfold textB
      rw [hsz, hbt, ← hr]
      simp
theorem small_num : ∀ n : Fin 100, numOf ⟨(Lib.itoa ((n.val : Nat) : Int)).toArray⟩ = some (n.val : Int) := by decide +kernel
theorem small_len : ∀ n : Fin 100, (numB ((n.val : Nat) : Int)).length ≤ 2 := by decide +kernel
/-- A text that was laid is read so. -/
theorem textF_of (t : ByteArray) (r : List Int) (most : Int) (h1 : (t.size : Int) ≤ most) (h2 : t.size < 100) : textF (textB t ++ r) 0 most = (t, r, 0) := by
  obtain ⟨d, q, hd, hd0, hd1⟩ := textB_head t
  have hnl := small_len ⟨t.size, h2⟩
  have hnum := small_num ⟨t.size, h2⟩
  simp only [] at hnl hnum
  have hU : untilF (textB t ++ r) 0 58 10 = ((t.size : Int), true, bytesOf t ++ r, 0) := by
    obtain ⟨N, hN⟩ : ∃ N, N = numB (t.size : Int) := ⟨_, rfl⟩
    have hNb : ∀ b ∈ N, 48 ≤ b ∧ b ≤ 57 := by rw [hN]; exact numB_mem t.size
    have hbs : textB t ++ r = N ++ 58 :: (bytesOf t ++ r) := by unfold textB; rw [hN]; simp
    have hstr : strOfNums N = ⟨(Lib.itoa (t.size : Int)).toArray⟩ := by
      have : bytesOf ⟨(Lib.itoa (t.size : Int)).toArray⟩ = N := by rw [hN]; simp [bytesOf, numB]
      rw [← this, strOf_bytes]
    rw [← hN] at hnl
    have hidx : idxI ((textB t ++ r).take (10 + 1)) 58 = (N.length : Int) := by
      unfold idxI
      have : ((textB t ++ r).take (10 + 1)).findIdx? (fun x => x == 58) = some N.length := by
        rw [List.findIdx?_eq_some_iff_getElem]
        have hl : N.length < ((textB t ++ r).take (10 + 1)).length := by rw [List.length_take, hbs, List.length_append, List.length_cons]; omega
        refine ⟨hl, ?_, fun j hj => ?_⟩
        · rw [List.getElem_take]
          simp only [hbs]
          rw [List.getElem_append_right (Nat.le_refl _)]
          simp
        · rw [List.getElem_take]
          simp only [hbs]
          rw [List.getElem_append_left hj]
          have := hNb _ (List.getElem_mem hj)
          simp
          omega
      rw [this]
    unfold untilF
    rw [hidx, if_neg (by omega), Int.toNat_natCast]
    have ht : (textB t ++ r).take N.length = N := by rw [hbs, List.take_left']; rfl
    have hdr : (textB t ++ r).drop (N.length + 1) = bytesOf t ++ r := by
      rw [hbs, ← List.drop_drop, List.drop_left']
      · rfl
      · rfl
    rw [ht, hdr, hstr, hnum]
  unfold textF
  rw [if_neg (by simp)]
  rw [hd, List.cons_append] at hU ⊢
  simp only []
  rw [if_neg (by omega), hU]
  simp only [Bool.true_eq_false, if_false, Int.toNat_natCast]
  rw [if_neg (by omega), if_neg (by omega), if_neg (by rw [List.length_append, bytesOf_length]; omega)]
  rw [← bytesOf_length t, List.take_left', List.drop_left', strOf_bytes]
  · rfl
  · rfl
/-! ### reading a key -/
theorem nameB_len {s : ByteArray} (h : nameB s = true) : s.size ≤ 16 := by
  unfold nameB at h
  simp at h
  omega
theorem check_fits {l : List S35} (h : checkE l = 0) : l.length ≤ 8 ∧ ∀ x ∈ l, x.f0.size ≤ 16 ∧ x.f1.size ≤ 64 := by
  have hp : partsE l = 0 := by
    unfold checkE at h
    split at h
    · assumption
    · exact h
  refine ⟨parts_le hp, fun x hx => ?_⟩
  unfold partsE at hp
  split at hp
  · cases hp
  · rename_i h5
    split at hp
    · cases hp
    · rename_i h6
      simp only [Bool.or_eq_true, not_or] at h5
      have a1 : ¬ longP x = true := fun hc => h5.2 (List.any_eq_true.2 ⟨x, hx, hc⟩)
      have a2 : ¬ badP x = true := fun hc => h6 (List.any_eq_true.2 ⟨x, hx, hc⟩)
      unfold longP at a1
      unfold badP at a2
      simp at a1 a2
      exact ⟨nameB_len a2.2, a1⟩
theorem read_of (l : List S35) : ∀ (k : Nat) (acc : List S35), l.length < k → (∀ x ∈ l, x.f0.size ≤ 16 ∧ x.f1.size ≤ 64) → readLoop k ((partsK l).flatten ++ [101]) 0 acc = ([101], 0, acc ++ l) := by
  induction l with
  | nil =>
    intro k acc hk _
    obtain ⟨k, rfl⟩ : ∃ m, k = m + 1 := ⟨k - 1, by simp at hk; omega⟩
    simp [partsK, readLoop, moreF]
  | cons x l ih =>
    intro k acc hk hx
    obtain ⟨k, rfl⟩ : ∃ m, k = m + 1 := ⟨k - 1, by simp at hk; omega⟩
    have h0 := hx x (by simp)
    obtain ⟨d, q, hd, hd0, hd1⟩ := textB_head x.f0
    have hm : moreF ((partsK (x :: l)).flatten ++ [101]) = true := by
      rw [partsK_cons, hd]
      simp [moreF]
      omega
    have t1 := textF_of x.f0 (textB x.f1 ++ ((partsK l).flatten ++ [101])) 16 (by omega) (by omega)
    have t2 := textF_of x.f1 ((partsK l).flatten ++ [101]) 64 (by omega) (by omega)
    have e1 : (partsK (x :: l)).flatten ++ [101] = textB x.f0 ++ (textB x.f1 ++ ((partsK l).flatten ++ [101])) := by rw [partsK_cons]; simp
    rw [readLoop, if_pos hm, e1, t1]
    simp only []
    rw [t2]
    simp only []
    rw [ih k _ (by simp at hk; omega) (fun y hy => hx y (by simp [hy]))]
    simp
theorem untilF_sub (bs : List Int) (e stop : Int) (long : Nat) : ∀ x ∈ (untilF bs e stop long).2.2.1, x ∈ bs := by
  unfold untilF
  split
  · intro x hx; cases hx
  · split
    · intro x hx; exact List.mem_of_mem_drop hx
    · intro x hx; cases hx
theorem textF_sub (bs : List Int) (e most : Int) : ∀ x ∈ (textF bs e most).2.1, x ∈ bs := by
  unfold textF
  split
  · exact fun x hx => hx
  · cases bs with
    | nil => intro x hx; cases hx
    | cons b t =>
      have h := untilF_sub (b :: t) 0 58 10
      simp only []
      split
      · intro x hx; cases hx
      · split
        · exact h
        · split
          · intro x hx; cases hx
          · split
            · intro x hx; cases hx
            · split
              · intro x hx; cases hx
              · intro x hx; exact h x (List.mem_of_mem_drop hx)
theorem readLoop_inv : ∀ (k : Nat) (bs : List Int) (e : Int) (acc : List S35), Byt bs → (∃ r, (readLoop k bs e acc) = (r, 0, (readLoop k bs e acc).2.2)) →
    e = 0 ∧ ∃ l', (readLoop k bs e acc).2.2 = acc ++ l' ∧ bs = (partsK l').flatten ++ (readLoop k bs e acc).1 := by
  intro k
  induction k with
  | zero =>
    intro bs e acc hb ⟨r, hr⟩
    simp only [readLoop] at hr ⊢
    injection hr with _ hr; injection hr with hr _
    exact ⟨hr, [], by simp, by simp [partsK]⟩
  | succ k ih =>
    intro bs e acc hb ⟨r, hr⟩
    rw [readLoop] at hr ⊢
    by_cases hm : moreF bs = true
    · rw [if_pos hm] at hr ⊢
      obtain ⟨a, ha⟩ : ∃ a, a = textF bs e 16 := ⟨_, rfl⟩
      rw [← ha] at hr ⊢
      obtain ⟨b, hbb⟩ : ∃ b, b = textF a.2.1 a.2.2 64 := ⟨_, rfl⟩
      rw [← hbb] at hr ⊢
      obtain ⟨n, abs, ae⟩ := a
      obtain ⟨v, bbs, be⟩ := b
      simp only [] at hr hbb ⊢
      have hba : Byt abs := fun x hx => by
        have hsub : ∀ x ∈ (textF bs e 16).2.1, x ∈ bs := textF_sub bs e 16
        rw [← ha] at hsub
        exact hb x (hsub x hx)
      have hbv : Byt bbs := fun x hx => by
        have hsub : ∀ x ∈ (textF abs ae 64).2.1, x ∈ abs := textF_sub abs ae 64
        rw [← hbb] at hsub
        exact hba x (hsub x hx)
      obtain ⟨h1, l', h2, h3⟩ := ih bbs be (acc ++ [⟨n, v⟩]) hbv ⟨r, hr⟩
      subst h1
      obtain ⟨h4, h5, _⟩ := textF_ok hba hbb.symm
      subst h4
      obtain ⟨h6, h7, _⟩ := textF_ok hb ha.symm
      refine ⟨h6, ⟨n, v⟩ :: l', by rw [h2]; simp, ?_⟩
      rw [partsK_cons, h7, h5]
      simp only [List.append_assoc]
      rw [← h3]
    · rw [if_neg hm] at hr ⊢
      injection hr with _ hr; injection hr with hr _
      exact ⟨hr, [], by simp, by simp [partsK]⟩
end Go.Proofs.YtjgommaikaeobaaDoor.G

namespace Go.Proofs.YtjgommaikaeobaaDoor.G
open Go.RowKit Go.Shelf Go.Lib Go.Proofs.YtjgommaikaeobaaDoorW.PrintWords Go.Proofs.YtjgommaikaeobaaDoor.PLabelSorts Go.Proofs.YtjgommaikaeobaaDoor.R Go.Proofs.YtjgommaikaeobaaDoor.L Go.Proofs.YtjgommaikaeobaaDoor.RD

theorem skipF_zero {x : Int} {bs : List Int} {e : Int} {r : List Int} (h : skipF x bs e = (r, 0)) : e = 0 ∧ bs = x :: r := by
  unfold skipF at h
  by_cases he : e ≠ 0
  · rw [if_pos he] at h
    injection h with _ h
    exact absurd h he
  rw [if_neg he] at h
  refine ⟨by simpa using he, ?_⟩
  cases bs with
  | nil => injection h with _ h; cases h
  | cons b t =>
    simp only [] at h
    by_cases hb : b = x
    · rw [if_pos hb] at h
      injection h with h _
      rw [hb, h]
    · rw [if_neg hb] at h
      injection h with _ h; cases h
theorem read_key (l : List S35) (h : checkE l = 0) : readB (keyL l) = (l, 0) := by
  obtain ⟨h1, h2⟩ := check_fits h
  unfold readB keyL listB
  have e1 : skipF 108 (108 :: (partsK l).flatten ++ [101]) 0 = ((partsK l).flatten ++ [101], 0) := by simp [skipF]
  rw [e1]
  simp only []
  rw [read_of l 9 [] (by omega) h2]
  unfold readEnd
  have e2 : skipF 101 [101] 0 = ([], 0) := by simp [skipF]
  simp only [List.nil_append]
  rw [e2, if_pos ⟨rfl, rfl, h⟩]
theorem read_back (bs : List Int) (hb : Byt bs) : ((readB bs).2 = 0 ∧ keyL (readB bs).1 = bs ∧ checkE (readB bs).1 = 0) ∨ readB bs = ([], 4) := by
  unfold readB
  obtain ⟨s, hs⟩ : ∃ s, s = skipF 108 bs 0 := ⟨_, rfl⟩
  obtain ⟨x, hx⟩ : ∃ x, x = readLoop 9 s.1 s.2 [] := ⟨_, rfl⟩
  rw [← hs, ← hx]
  unfold readEnd
  split
  · rename_i hc
    left
    obtain ⟨h1, h2, h3⟩ := hc
    have h4 : skipF 101 x.1 x.2.1 = ([], 0) := Prod.ext (List.eq_nil_of_length_eq_zero h2) h1
    obtain ⟨h5, h6⟩ := skipF_zero h4
    have hbs : Byt s.1 := fun b hbm => by
      rw [hs] at hbm
      unfold skipF at hbm
      rw [if_neg (by simp)] at hbm
      cases bs with
      | nil => cases hbm
      | cons c t =>
        simp only [] at hbm
        split at hbm
        · exact hb b (by simp [hbm])
        · cases hbm
    obtain ⟨h7, l', h8, h9⟩ := readLoop_inv 9 s.1 s.2 [] hbs ⟨x.1, by rw [← hx]; exact Prod.ext rfl (Prod.ext h5 rfl)⟩
    rw [← hx] at h8 h9
    rw [List.nil_append] at h8
    obtain ⟨_, h11⟩ := skipF_zero (show skipF 108 bs 0 = (s.1, 0) by rw [← hs]; exact Prod.ext rfl h7)
    refine ⟨rfl, ?_, h3⟩
    simp only [h8]
    rw [h11, h9, h6]
    rfl
  · exact .inr rfl
theorem keyL_len (l : List S35) (hm : mass l ≤ 1048576) : (keyL l).length ≤ 23000000 := by
  unfold keyL listB
  have h1 := partsK_sum l hm
  have h2 : ((partsK l).flatten).length = sumL (partsK l) := by simp [sumL]
  simp only [List.length_cons, List.length_append, List.length_nil, h2]
  omega
theorem check_mass {l : List S35} (h : checkE l = 0) : mass l ≤ 1048576 := by
  obtain ⟨h1, h2⟩ := check_fits h
  have : ∀ l : List S35, (∀ x ∈ l, x.f0.size ≤ 16 ∧ x.f1.size ≤ 64) → mass l ≤ 82 * l.length := by
    intro l
    induction l with
    | nil => intro _; simp [mass]
    | cons x l ih =>
      intro hx
      have h3 := hx x (by simp)
      have h4 := ih (fun y hy => hx y (by simp [hy]))
      rw [mass_cons, List.length_cons]
      unfold muP
      omega
  have := this l h2
  omega
theorem back_j0 (s : ByteArray) (hs : s.size ≤ 140737488351232) (k : Nat) (hk : 10 < k) : watchfirelaw02_LabelBack.j0 k s false = some true := by
  obtain ⟨k, rfl⟩ : ∃ m, k = m + 1 := ⟨k - 1, by omega⟩
  have hr : LRead.f s = some (readB (bytesOf s)) := by unfold LRead.f; rw [if_pos hs]
  simp only [watchfirelaw02_LabelBack.j0, hr, Option.bind_some, Bool.false_eq_true, if_false]
  rcases read_back (bytesOf s) (bytesOf_range s) with ⟨h1, h2, h3⟩ | h4
  · obtain ⟨hl, _⟩ := check_fits h3
    have hkey : keyS (readB (bytesOf s)).1 = s := by unfold keyS; rw [h2, strOf_bytes]
    rw [if_pos h1, key_f _ (check_mass h3) k (by omega), Option.bind_some, hkey, if_pos rfl]
    simp only [LCheck.f, Option.bind_some]
    rw [if_pos h3]
    rfl
  · rw [h4]
    simp [Awake.f]
theorem labelBack_pure (l : List S35) (hm : mass l ≤ 1048576) (s : ByteArray) (hs : s.size ≤ 140737488351232) : ∃ k, watchfirelaw02_LabelBack.f k l s = some true := by
  have hlen := mass_len l
  refine ⟨l.length + 20, ?_⟩
  have hsz : (keyS l).size ≤ 140737488351232 := by
    have := keyL_len l hm
    unfold keyS
    rw [strOf_size]
    omega
  have hr : LRead.f (keyS l) = some (readB (keyL l)) := by
    unfold LRead.f
    rw [if_pos hsz]
    unfold keyS
    rw [bytes_strOf (keyL_range l)]
  have hj := back_j0 s hs (l.length + 20) (by omega)
  unfold watchfirelaw02_LabelBack.f
  rw [key_f l hm _ (by omega), Option.bind_some, hr, Option.bind_some]
  simp only [LCheck.f, LSameG.f, Option.bind_some]
  by_cases hc : checkE l = 0
  · rw [if_pos hc, read_key l hc]
    simp only [sameB_self, if_true]
    rw [if_pos hc]
    exact hj
  · rw [if_neg hc, if_neg hc]
    have hne : ¬ (readB (keyL l)).2 = 0 := by
      intro h0
      rcases read_back (keyL l) (keyL_range l) with ⟨_, h2, h3⟩ | h4
      · have h5 : (readB (keyL l)).1 = l := by
          refine keyS_inj.1 ?_
          unfold keyS
          rw [h2]
        rw [h5] at h3
        exact hc h3
      · rw [h4] at h0
        cases h0
    rw [show ((readB (keyL l)).2 == 0) = false from beq_eq_false_iff_ne.2 hne]
    exact hj
theorem labelBack_walk (A : Option Addr) (c : Nat) (l : List S35) (s : ByteArray) (w : World) (h : Kd.C k35 w A l.length l) (hc : l.length ≤ c) (hT : TabE w) (hm : mass l ≤ 1048576) (hs : s.size ≤ 140737488351232) :
    Calls Tryd.prog 8 #[.slice A l.length c, .string s] w fun e w' => e = .returned (.bool true) ∧ Below w.heap.size w w' := by
  obtain ⟨k, hk⟩ := labelBack_pure l hm s hs
  exact watchfirelaw02_LabelBack.calls k A c l s true w h hc hT hk
end Go.Proofs.YtjgommaikaeobaaDoor.G

namespace Go.Proofs.YtjgommaikaeobaaDoor.G
open Go.RowKit Go.Shelf Go.Lib
theorem cells127 : Tryd.prog.cellsOf 127 = 1 := by kernel_rfl
theorem cells9 : Tryd.prog.cellsOf 9 = 1 := by kernel_rfl
theorem star : "*" ++ "errors.errorString" = "*errors.errorString" := by decide
theorem row125 (u : TypeId) (h : Tryd.prog.typeName? 3 u = some "*errors.errorString") : u = 125 :=
  typeName_ptr_named (nm := "errors.errorString") (by rw [star]; kernel_rfl) (by kernel_rfl) (by decide) u (by rw [star]; exact h)
theorem syn_of {W : World} {rest : List (String × DataW Unit)} (h : laidMet Tryd.prog (("strconv.ErrSyntax", Rows.laid_strconv_ErrSyntax) :: rest) W) : ∃ tp p, W.var? Tryd.prog "strconv.ErrSyntax" = some #[.iface tp p] := by
  obtain ⟨a, s, hv, _⟩ := laid_sentinel h (g := 2) (by kernel_rfl) (by kernel_rfl) Tryd.underlying89 row125 Tryd.underlying125 Tryd.underlying127 rfl rfl Tryd.underlying9 cells127 cells9
  exact ⟨_, _, hv⟩
theorem rng_of {W : World} {rest : List (String × DataW Unit)} (h : laidMet Tryd.prog (("strconv.ErrRange", Rows.laid_strconv_ErrRange) :: rest) W) : ∃ tp p, W.var? Tryd.prog "strconv.ErrRange" = some #[.iface tp p] := by
  obtain ⟨a, s, hv, _⟩ := laid_sentinel h (g := 3) (by kernel_rfl) (by kernel_rfl) Tryd.underlying89 row125 Tryd.underlying125 Tryd.underlying127 rfl rfl Tryd.underlying9 cells127 cells9
  exact ⟨_, _, hv⟩
end Go.Proofs.YtjgommaikaeobaaDoor.G
