/- Finding a key among items; a row's own form. -/
import Derived.Test.YtmifpookhhkgeaaDoorQT
set_option linter.unusedVariables false
set_option linter.unusedSimpArgs false
namespace Go.Proofs.YtmifpookhhkgeaaDoor.Q
open Go.RowKit Go.Lib Go.Proofs.YtmifpookhhkgeaaDoorW.PrintWords Go.Proofs.YtmifpookhhkgeaaDoor.P
theorem index_nil (lb : Array Value) (w : World) : Calls Tryd.prog 23 #[.slice none 0 0, .func (.func 24) #[] lb] w fun e w' => e = .returned (.int .i64 (-1)) ∧ w' = w := by
  go_enter Tryd.func23, Tryd.ntmps23
  go_wp2_with (fail)
  go_loopg [8] 1 (fun kq u8 wr => u8 = .int .i64 0 ∧ Aside0 (wr = w))
  case atStart => exact ⟨rfl, ⟨rfl⟩⟩
  case round =>
    obtain ⟨rfl, HW⟩ := hrel
    obtain rfl := HW.out
    go_wp2_with (fail)
    go_ret
    exact ⟨rfl, rfl⟩
theorem idxFrom (key : ByteArray) : ∀ (l : List S47) (i : Nat), (Lib.idxByFrom (fun (_ : S47) y => decide (y.f0.f0 = key)) default l i = -1 ∧ ∀ x ∈ l, x.f0.f0 ≠ key) ∨
    ∃ k : Nat, ∃ h : k < l.length, Lib.idxByFrom (fun (_ : S47) y => decide (y.f0.f0 = key)) default l i = ((i + k : Nat) : Int) ∧ l[k].f0.f0 = key ∧ ∀ j (hj : j < k), (l[j]'(by omega)).f0.f0 ≠ key := by
  intro l
  induction l with
  | nil => intro i; exact .inl ⟨rfl, fun x hx => by cases hx⟩
  | cons y r ih =>
    intro i
    by_cases hy : y.f0.f0 = key
    · refine .inr ⟨0, by simp, ?_, hy, fun j hj => absurd hj (Nat.not_lt_zero _)⟩
      simp only [Lib.idxByFrom, decide_eq_true hy, if_true, Nat.add_zero]
    · have e : Lib.idxByFrom (fun (_ : S47) y => decide (y.f0.f0 = key)) default (y :: r) i = Lib.idxByFrom (fun (_ : S47) y => decide (y.f0.f0 = key)) default r (i + 1) := by
        simp only [Lib.idxByFrom, decide_eq_false hy, Bool.false_eq_true, if_false]
      rw [e]
      rcases ih (i + 1) with ⟨h1, h2⟩ | ⟨k, hk, h1, h2, h3⟩
      · refine .inl ⟨h1, fun x hx => ?_⟩
        rcases List.mem_cons.1 hx with rfl | hx
        · exact hy
        · exact h2 x hx
      · refine .inr ⟨k + 1, by simpa using hk, by rw [h1]; congr 1; omega, by simpa using h2, fun j hj => ?_⟩
        cases j with
        | zero => simpa using hy
        | succ j => simpa using h3 j (by omega)
theorem idxK_cases (l : List S47) (key : ByteArray) : (idxK l key = -1 ∧ ∀ x ∈ l, x.f0.f0 ≠ key) ∨ ∃ i : Nat, ∃ h : i < l.length, idxK l key = i ∧ l[i].f0.f0 = key ∧ ∀ j (hj : j < i), (l[j]'(by omega)).f0.f0 ≠ key := by
  unfold idxK Lib.idxBy
  rcases idxFrom key l 0 with h | ⟨k, hk, e, h⟩
  · exact .inl h
  · exact .inr ⟨k, hk, by rw [e, Nat.zero_add], h⟩
theorem index_all (A : Option Addr) (c : Nat) (l : List S47) (key : ByteArray) (bx : Nat) (w : World) (h : Kd.C k47 w A l.length l) (hn : l = [] → (Value.slice A l.length c) = .slice none 0 0) (hb : ∃ cs, w.heap[bx]? = some (.cells cs 27 (0, 0)) ∧ cs[0]? = some (.string key)) :
    Calls Tryd.prog 23 #[.slice A l.length c, .func (.func 24) #[] #[.pointer (some ⟨bx, 0, none⟩)]] w fun e w' => e = .returned (.int .i64 (idxK l key)) ∧ Below w.heap.size w w' := by
  by_cases hl : l.length = 0
  · have hl0 : l = [] := List.eq_nil_of_length_eq_zero hl
    subst hl0
    obtain ⟨rfl, rfl⟩ : A = none ∧ c = 0 := by have := hn rfl; simpa using this
    refine (index_nil _ w).mono ?_
    rintro e w1 ⟨rfl, rfl⟩
    exact ⟨rfl, Below.refl _ _⟩
  · exact index_any A c l key bx w h (by omega) hb
/-- A row that is not empty: where it lies. -/
theorem R_form {w : World} {base : Nat} {ok : Nat → Prop} {v : Value} {l : List S47} (h : Kd.R k47 47 w base ok v l) (hl : 0 < l.length) : ∃ rb cap, v = .slice (some ⟨rb, 0, none⟩) l.length cap ∧ base ≤ rb ∧ ok rb ∧ rb < w.heap.size ∧ ∃ cells, w.heap[rb]? = some (.cells cells 47 (0, 0)) := by
  have ho := flat_of_R h
  obtain ⟨_, hc⟩ := ho
  rcases hc with ⟨_, h2⟩ | ⟨g, cap, cur, e1, e2, e3, e4⟩
  · omega
  · exact ⟨g, cap, e1, e2, h.1 g (by rw [e1]; rfl), blk_lt e3, cur, e3⟩
theorem R_take {w : World} {base : Nat} {ok : Nat → Prop} {A : Option Addr} {c m : Nat} {l : List S47} (h : Kd.R k47 47 w base ok (.slice A l.length c) l) (hm : m ≤ l.length) : Kd.R k47 47 w base ok (.slice A (l.take m).length c) (l.take m) := by
  obtain ⟨h0, inner, ho, hr⟩ := h
  have e : (l.take m).length = m := by rw [List.length_take]; omega
  rw [e]
  have hb : (Value.slice A m c).ownBlock = (Value.slice A l.length c).ownBlock := by cases A <;> rfl
  refine ⟨fun k hk => h0 k (hb ▸ hk), inner.take (m * 7), ?_, ?_⟩
  rotate_left
  · have := Kd.reps_take hr hm
    rw [hb]
    exact this
  rw [e]
  exact own_take ho hm
set_option maxRecDepth 100000 in
/-- Append of an item that is new to a row that may be full ahead of its block's end. -/
theorem WR_append {ops : Array Oper} {rest : List Oper} {o : Oper} {a : Act} {Q : Exit → Act → World → Prop} {w0 W : World} (base g : Nat) (hgd : o.guard = none) (s x : Operand) (ho : o.op = .call { callee := .builtin .append, args := #[s, x], argTypes := #[43, 43] })
    (v : Value) (xs : List S47) (hs : a.eval s = v) (hx : a.eval x = .slice (some ⟨W.heap.size, 0, none⟩) 1 1) (hfresh : ∀ k, W.heap.size ≤ k → k ≠ g) (HO : WR W base (fun k => k ≠ g) v xs) (HB : Below base w0 W) (hbase : base ≤ W.heap.size) (hl : xs.length ≤ 1000000)
    (h : ∀ v1 w1, Kd.R k47 47 w1 base (fun k => k ≠ g) v1 (xs ++ [z47]) → Below base w0 w1 → W.grownBy w1 v.ownBlock → (v1.ownBlock = v.ownBlock ∨ ∃ b, v1.ownBlock = some b ∧ W.heap.size ≤ b) → wpList Tryd.prog ops Q rest (a.put o.dst v1) w1) :
    wpList Tryd.prog ops Q (o :: rest) a (W.alloc (.cells #[.string ⟨#[]⟩, .int .i64 0, .int .u16 0, .string ⟨#[]⟩, .int .i64 0, .int .i64 0, .int .i64 0] 47)) := by
  have info : (Tryd.prog.info? 47).map (fun i => (i.zero, i.size, i.bytes)) = some (some (.agg #[(.string ⟨#[]⟩), (.int .i64 0), (.int .u16 0), (.string ⟨#[]⟩), (.int .i64 0), (.int .i64 0), (.int .i64 0)]), k47.sz, 72) := info47A
  have key : ∀ v', Kd.R k47 47 W base (fun k => k ≠ g) v' xs → v = v' → wpList Tryd.prog ops Q (o :: rest) a (W.alloc (.cells #[.string ⟨#[]⟩, .int .i64 0, .int .u16 0, .string ⟨#[]⟩, .int .i64 0, .int .i64 0, .int .i64 0] 47)) := fun v' hr he => by
    subst he
    exact Kd.R_append k47 (w0 := w0) base hgd s x 43 47 (.agg #[(.string ⟨#[]⟩), (.int .i64 0), (.int .u16 0), (.string ⟨#[]⟩), (.int .i64 0), (.int .i64 0), (.int .i64 0)]) 72 ho Tryd.underlying43 info rfl (by decide) (by omega) v xs z47 [.string ⟨#[]⟩, .int .i64 0, .int .u16 0, .string ⟨#[]⟩, .int .i64 0, .int .i64 0, .int .i64 0] (fun k => k ≠ g) (fun _ => False) hs hx (k47_mkM _ _ _ z47) (fun _ hk => hk.elim) hfresh hr HB hbase (by omega) h
  obtain ⟨A, c, c', rfl, hc, hr, hcc⟩ := HO
  rcases hcc with rfl | hcn
  · exact key _ hr rfl
  · obtain ⟨h0, inner, hown, hrep⟩ := hr
    obtain ⟨hil, hcase⟩ := hown
    rcases hcase with ⟨he, hz⟩ | ⟨rb, cap, cur, he, hrb, hblk, hnc, hcm, hcs, hct⟩
    · obtain ⟨rfl, hn, rfl⟩ : A = none ∧ xs.length = 0 ∧ c' = 0 := by simpa using he
      obtain rfl : c = 0 := by omega
      exact key _ ⟨h0, inner, ⟨hil, .inl ⟨he, hz⟩⟩, hrep⟩ rfl
    · obtain ⟨rfl, rfl⟩ : A = some ⟨rb, 0, none⟩ ∧ c' = cap := by simpa using he
      subst hcn
      obtain ⟨i0, e0, e1, e2, e3⟩ := info47'
      have hsz7 : k47.sz = 7 := rfl
      obtain ⟨wa, hwa⟩ : ∃ wa, wa = W.alloc (.cells #[.string ⟨#[]⟩, .int .i64 0, .int .u16 0, .string ⟨#[]⟩, .int .i64 0, .int .i64 0, .int .i64 0] 47) := ⟨_, rfl⟩
      have hnew : wa.heap[W.heap.size]? = some (.cells #[.string ⟨#[]⟩, .int .i64 0, .int .u16 0, .string ⟨#[]⟩, .int .i64 0, .int .i64 0, .int .i64 0] 47 (0, 0)) := by rw [hwa]; exact heap_alloc_new W _
      have hold : wa.heap[rb]? = some (.cells cur 47 (0, 0)) := by rw [hwa, heap_alloc_old _ _ (blk_lt hblk)]; exact hblk
      obtain ⟨v', w', hrun, ho', hg'⟩ := run_append_arg_grows (P := Tryd.prog) wa 43 o.type 47 i0 _ 7 72 Tryd.underlying43 e0 e1 e2 e3 rfl (by omega) ⟨rb, 0, none⟩ xs.length xs.length inner hil (fun j u hu => by
        have hj : j < inner.length := (List.getElem?_eq_some_iff.1 hu).1
        rw [add_at, Nat.zero_add, blk_cell hold j, ← hu, ← hct, List.getElem?_take_of_lt (by rw [hil] at hj; exact hj)]
        simp) ⟨W.heap.size, 0, none⟩ 1 1 [.string ⟨#[]⟩, .int .i64 0, .int .u16 0, .string ⟨#[]⟩, .int .i64 0, .int .i64 0, .int .i64 0] rfl (fun j u hu => by
        rw [add_at, Nat.zero_add, blk_cell hnew j, ← hu]
        simp) (by omega) (by simp only [maxLen]; omega) (by omega)
      have hga : W.grownBy w' (Value.slice (some ⟨rb, 0, none⟩) xs.length xs.length).ownBlock := World.grownBy.trans (by rw [hwa]; exact World.grownBy_alloc W _ _) ⟨hg'.os, hg'.tape, hg'.output, hg'.size, fun k hk _ => hg'.block k hk (by simp)⟩
      have hat : v'.ownBlock = (Value.slice (some ⟨rb, 0, none⟩) xs.length xs.length).ownBlock ∨ ∃ b, v'.ownBlock = some b ∧ W.heap.size ≤ b := by
        rcases ho'.2 with ⟨rfl, h1⟩ | ⟨b, cp, _, rfl, hb, _⟩
        · omega
        · exact .inr ⟨b, rfl, Nat.le_trans (by rw [hwa]; simp) hb⟩
      have hR : Kd.R k47 47 w' base (fun k => k ≠ g) v' (xs ++ [z47]) := Kd.R_appended (d := k47) (W := W) (v := .slice (some ⟨rb, 0, none⟩) xs.length xs.length) (okp := fun _ => False) h0 hrep (k47_mkM _ _ _ z47) (fun _ hk => hk.elim) hfresh (own_weaken ho' (Nat.le_trans hbase (by rw [hwa]; simp))) hga hat
      have hB' : Below base w0 w' := (HB.alloc hbase _).grown (by rw [← hwa]; exact hg') (Nat.le_trans hbase (by simp)) (by intro k hk; cases hk)
      rw [← hwa]
      refine wpList_plain hgd fun K hK => ?_
      unfold Oper.wp execOp
      simp only [ho, resolve, invoke, builtin, Sem.run_bind, Sem.run_pure, Result.andThen_ok, List.map_toArray, List.map_cons, List.map_nil, hs, hx, hrun]
      exact hK _ _ (h v' w' hR hB' hga hat)
end Go.Proofs.YtmifpookhhkgeaaDoor.Q
