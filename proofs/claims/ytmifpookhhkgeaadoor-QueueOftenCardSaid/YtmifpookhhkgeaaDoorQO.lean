/- QueueOften: with room for all each entry is taken just so often. -/
import Derived.Test.YtmifpookhhkgeaaDoorQW
set_option linter.unusedVariables false
set_option linter.unusedSimpArgs false
namespace Go.Proofs.YtmifpookhhkgeaaDoor.Q
open Go.RowKit Go.Lib Go.Proofs.YtmifpookhhkgeaaDoorW.PrintWords Go.Proofs.YtmifpookhhkgeaaDoorW.PrintMore Go.Proofs.YtmifpookhhkgeaaDoor.P Go.Proofs.YtmifpookhhkgeaaDoor.G
def keyO (i : Nat) : ByteArray := ⟨#[111, UInt8.ofNat (97 + i)]⟩
def itO (s : Int) (i : Nat) : S47 := ⟨oneE (keyO i), s, i⟩
def baseL (s : Int) (m : Nat) : List S47 := (List.range m).map (itO s)
def fullL (s : Int) (m : Nat) : List S47 := baseL s m ++ [⟨ek, s, m⟩]
theorem facts_o : ∀ i < 20, idxK (baseL 0 i) (keyO i) = -1 ∧ checkC (oneE (keyO i)) = 0 ∧ sizeE (oneE (keyO i)) ≤ 1000 ∧ idxK (baseL 0 i) ek.f0 = -1 ∧ (keyO i ≠ ⟨#[107]⟩) := by decide +kernel
theorem size_k : sizeE ek ≤ 1000 := by decide +kernel
theorem base_succ (s : Int) (i : Nat) : baseL s (i + 1) = baseL s i ++ [itO s i] := by unfold baseL; rw [List.range_succ, List.map_append]; rfl
theorem pushB_o {i : Nat} (h : i < 20) : pushB (baseL 0 i) (oneE (keyO i)) = true ∧ pushL (baseL 0 i) (oneE (keyO i)) i = baseL 0 (i + 1) := by
  obtain ⟨h1, h2, _⟩ := facts_o i h
  unfold pushB pushL
  rw [show (oneE (keyO i)).f0 = keyO i from rfl, h1, h2, base_succ]
  exact ⟨by simp, by simp [itO]⟩
theorem pushB_k {i : Nat} (h : i < 20) : pushB (baseL 0 i) ek = true ∧ pushL (baseL 0 i) ek i = fullL 0 i := by
  obtain ⟨_, _, _, h1, _⟩ := facts_o i h
  unfold pushB pushL
  rw [h1, ck_k]
  exact ⟨by simp, by simp [fullL]⟩
theorem full_len (s : Int) (m : Nat) : (fullL s m).length = m + 1 := by simp [fullL, baseL]
theorem full_mem {s : Int} {m : Nat} (hm : m < 20) {x : S47} (hx : x ∈ fullL s m) : x.f1 = s ∧ checkC x.f0 = 0 ∧ sizeE x.f0 ≤ 1000 := by
  unfold fullL baseL at hx
  rw [List.mem_append] at hx
  rcases hx with hx | hx
  · obtain ⟨i, hi, rfl⟩ := List.mem_map.1 hx
    have hi := List.mem_range.1 hi
    obtain ⟨_, h2, h3, _⟩ := facts_o i (by omega)
    exact ⟨rfl, h2, h3⟩
  · rw [List.mem_singleton] at hx
    subst hx
    exact ⟨rfl, ck_k, size_k⟩
def isK (e : S27) : Bool := decide (e.f0 = ⟨#[107]⟩)
theorem full_count {s : Int} {m : Nat} (hm : m < 20) : ((fullL s m).map S47.f0).countP isK = 1 := by
  unfold fullL baseL
  rw [List.map_append, List.countP_append, List.map_map]
  have h0 : ((List.range m).map (S47.f0 ∘ itO s)).countP isK = 0 := by
    rw [List.countP_eq_zero]
    intro e he
    obtain ⟨i, hi, rfl⟩ := List.mem_map.1 he
    have hi := List.mem_range.1 hi
    obtain ⟨_, _, _, _, h⟩ := facts_o i (by omega)
    exact fun e => h (of_decide_eq_true e)
  rw [h0]
  rfl
def bump (x : S47) : S47 := ⟨x.f0, x.f1 + 1, x.f2⟩
theorem full_bump (s : Int) (m : Nat) : (fullL s m).map bump = fullL (s + 1) m := by
  unfold fullL baseL
  rw [List.map_append, List.map_map]
  rfl
theorem take_full (s limit : Int) : ∀ (l : List S47) (room : Int), (∀ x ∈ l, x.f1 = s ∧ sizeE x.f0 ≤ 1000) → 1000 * (l.length : Int) ≤ room → takeL l room limit = (l.map S47.f0, if limit ≤ s + 1 then [] else l.map bump) := by
  intro l
  induction l with
  | nil => intro room _ _; simp [takeL]
  | cons x t ih =>
    intro room h hr
    obtain ⟨hx, hz⟩ := h x (by simp)
    rw [List.length_cons] at hr
    rw [takeL_cons, if_pos (by omega), ih _ (fun y hy => h y (List.mem_cons_of_mem _ hy)) (by omega), hx]
    by_cases hl : limit ≤ s + 1
    · simp [hl]
    · simp [hl, bump, hx]
/-- What is there behind i takes, but for the order. -/
def stL (m n i : Nat) : List S47 := if i < n then fullL i m else []
theorem take_st {m n i : Nat} (hm : m < 20) {l' : List S47} (hp : l'.Perm (stL m n i)) : (takeL l' 1048576 n).2.Perm (stL m n (i + 1)) ∧ (takeL l' 1048576 n).1.countP isK = (if i < n then 1 else 0) ∧ (takeL l' 1048576 n).1.length ≤ 20 ∧ (takeL l' 1048576 n).2.length ≤ 20 := by
  unfold stL at hp ⊢
  by_cases hi : i < n
  · rw [if_pos hi] at hp ⊢
    have hlen := hp.length_eq
    rw [full_len] at hlen
    rw [take_full i n l' 1048576 (fun x hx => by
      obtain ⟨h1, _, h3⟩ := full_mem hm (hp.mem_iff.1 hx)
      exact ⟨h1, h3⟩) (by omega)]
    dsimp only
    have hc : (l'.map S47.f0).countP isK = 1 := by rw [(hp.map S47.f0).countP_eq]; exact full_count hm
    refine ⟨?_, hc, by simp; omega, ?_⟩
    · by_cases hl : i + 1 < n
      · rw [if_neg (by omega), if_pos hl]
        have := hp.map bump
        rw [full_bump] at this
        exact this
      · rw [if_pos (by omega), if_neg hl]
    · split
      · simp
      · simp; omega
  · rw [if_neg hi] at hp ⊢
    rw [hp.eq_nil, if_neg (by omega)]
    simp [takeL]
theorem st_mem {m n i : Nat} (hm : m < 20) (hi : i ≤ 100) {x : S47} (hx : x ∈ stL m n i) : checkC x.f0 = 0 ∧ 0 ≤ x.f1 ∧ x.f1 ≤ 1000000000 := by
  unfold stL at hx
  split at hx
  · obtain ⟨h1, h2, _⟩ := full_mem hm hx
    exact ⟨h2, by omega, by omega⟩
  · simp at hx
theorem st_len (m n i : Nat) (hm : m < 20) : (stL m n i).length ≤ 20 := by
  unfold stL; split
  · rw [full_len]; omega
  · simp
end Go.Proofs.YtmifpookhhkgeaaDoor.Q
