/- live.reached: what the walk carries. -/
import Derived.Test.YtejjaabkbkkjlaaLive2
import Derived.Test.YtejjaabkbkkjlaaGrow
namespace Go.Proofs.Ytejjaabkbkkjlaa
set_option linter.unusedVariables false
open Go.RowKit
attribute [local irreducible] wpStill wpOne wpPh

/-- what is known of the set and of what is still to do; E: left sides that are being done -/
structure RInv (G : GramD) (st : Int) (n : Nat) (f : Nat → Bool) (td : List Int) (E : Int → Prop) : Prop where
  sd : ∀ s, hasI n f s = true → Rch G.rules st s
  s0 : hasI n f st = true
  sub : ∀ x ∈ td, hasI n f x = true
  cl : ∀ r ∈ G.rules, hasI n f r.1 = true → r.1 ∉ td → ¬ E r.1 → ∀ x ∈ r.2, hasI n f x = true
theorem RInv.put {G : GramD} {st : Int} {n : Nat} {f : Nat → Bool} {td : List Int} {E : Int → Prop} (h : RInv G st n f td E) {x : Int} (hx : Rch G.rules st x) (hp : putAns n f x = true) : RInv G st n (putSet n f x) (td ++ [x]) E := by
  have hm : ∀ s, hasI n f s = true → hasI n (putSet n f x) s = true := fun s hs => by rw [putSet_has, hs]; rfl
  have hxx : hasI n (putSet n f x) x = true := by
    obtain ⟨⟨h0, h1⟩, -⟩ := putAns_iff.1 hp
    rw [putSet_has]; simp [h0, h1]
  refine ⟨fun s hs => ?_, hm _ h.s0, fun y hy => ?_, fun r hr h1 h2 h3 y hy => ?_⟩
  · rw [putSet_has] at hs
    simp only [Bool.or_eq_true, Bool.and_eq_true, decide_eq_true_eq] at hs
    rcases hs with hs | hs
    · exact h.sd s hs
    · rw [hs.2]; exact hx
  · rcases List.mem_append.1 hy with hy | hy
    · exact hm _ (h.sub y hy)
    · rw [List.mem_singleton.1 hy]; exact hxx
  · have hne : r.1 ≠ x := fun e => h2 (by rw [e]; simp)
    rw [putSet_has] at h1
    simp only [Bool.or_eq_true, Bool.and_eq_true, decide_eq_true_eq] at h1
    rcases h1 with h1 | h1
    · exact hm _ (h.cl r hr h1 (fun hh => h2 (by simp [hh])) h3 y hy)
    · exact absurd h1.2 hne
theorem RInv.pop {G : GramD} {st : Int} {n : Nat} {f : Nat → Bool} {td : List Int} {l : Int} (h : RInv G st n f (td ++ [l]) (fun _ => False)) : RInv G st n f td (fun s => s = l) ∧ Rch G.rules st l :=
  ⟨⟨h.sd, h.s0, fun x hx => h.sub x (by simp [hx]), fun r hr h1 h2 h3 => h.cl r hr h1 (fun hh => by
    rcases List.mem_append.1 hh with hh | hh
    · exact h2 hh
    · exact h3 (List.mem_singleton.1 hh)) (fun e => e)⟩, h.sd l (h.sub l (by simp))⟩
theorem RInv.done {G : GramD} {st : Int} {n : Nat} {f : Nat → Bool} {td : List Int} {l : Int} (h : RInv G st n f td (fun s => s = l)) (hl : ∀ r ∈ G.rules, r.1 = l → ∀ x ∈ r.2, hasI n f x = true) : RInv G st n f td (fun _ => False) :=
  ⟨h.sd, h.s0, h.sub, fun r hr h1 h2 _ => by
    by_cases e : r.1 = l
    · exact hl r hr e
    · exact h.cl r hr h1 h2 e⟩

theorem own_pop {w : World} {base : Nat} {e : TypeId} {A : Option Addr} {m c : Nat} {xs : List Value} {x : Value} (h : w.ownsRow base e 1 (.slice A (m + 1) c) (m + 1) (xs ++ [x])) : w.ownsRow base e 1 (.slice A m c) m xs := by
  have hl := h.1
  have hl' : xs.length = m := by simpa using hl
  rcases h.2 with ⟨h1, h2⟩ | ⟨g, cap, cur, h1, hb, hh, hn, hc, hz, ht⟩
  · injection h1 with _ h1; omega
  · injection h1 with e1 e2 e3
    subst e1 e3
    refine ⟨by simpa using hl', .inr ⟨g, c, cur, rfl, hb, hh, by omega, hc, hz, ?_⟩⟩
    have := congrArg (List.take xs.length) ht
    rw [List.take_append_of_le_length (Nat.le_refl _), List.take_length, List.take_take] at this
    rw [← this]
    congr 1
    omega
theorem own_last {w : World} {base : Nat} {e : TypeId} {A : Option Addr} {m c : Nat} {xs : List Value} {x : Value} (h : w.ownsRow base e 1 (.slice A (m + 1) c) (m + 1) (xs ++ [x])) : ∃ g, A = some ⟨g, 0, none⟩ ∧ w.cell? ⟨g, m, none⟩ = some x ∧ m + 1 ≤ c ∧ c ≤ maxLen := by
  have hl : xs.length = m := by simpa using h.1
  rcases h.2 with ⟨h1, h2⟩ | ⟨g, cap, cur, h1, hb, hh, hn, hc, hz, ht⟩
  · injection h1 with _ h1; omega
  · injection h1 with e1 e2 e3
    subst e3
    refine ⟨g, e1, ?_, hn, hc⟩
    rw [cell_of_row w g m cur e (0, 0) hh]
    have h3 : (xs ++ [x])[m]? = some x := by rw [← hl]; simp
    rw [← ht, List.getElem?_take] at h3
    split at h3
    · simpa using h3
    · cases h3

theorem GSet.belowZ {w wr wr' : World} {F : Nat → Prop} {A1 : Option Addr} {c1 : Nat} {A2 : Option Addr} {c2 : Nat} {A3 : Option Addr} {c3 T N R : Nat} {st : Int} {G : GramD} {b : Nat} {S : Nat → Prop} {n : Nat} {f : Nat → Bool}
    (h : GSet w wr F w.heap.size A1 c1 A2 c2 A3 c3 T N R st G b S n f) {z : Nat} (hF : ∀ k, F k → k < w.heap.size) (hS : ∀ k, S k → k < z) (hz : w.heap.size < z) (hb : Below z wr wr') : GSet w wr' F w.heap.size A1 c1 A2 c2 A3 c3 T N R st G b S n f :=
  ⟨h.g.touch (Touch.of_below hb) (fun k hk hk' => by have := hF k hk; omega) (fun hk' => by omega), h.s.touch (Touch.of_below hb) (fun k hk hk' => by have := hS k hk; omega),
    h.b.trans (hb.mono (by omega))⟩

/-- the grammar, the set, what is to do, a list that is being read -/
structure RSt (w wr : World) (F : Nat → Prop) (A1 : Option Addr) (c1 : Nat) (A2 : Option Addr) (c2 : Nat) (A3 : Option Addr) (c3 T N R : Nat) (st : Int) (G : GramD) (b : Nat) (S : Nat → Prop) (n z : Nat) (f : Nat → Bool) (A : Option Addr) (m c : Nat) (td : List Int) (y y' : Nat) (vl : Value) (ls : List Int) : Prop where
  t : GSet w wr F w.heap.size A1 c1 A2 c2 A3 c3 T N R st G b S n f
  o : wr.ownsRow z 3 1 (.slice A m c) m (td.map I64)
  far : ∀ k, (Value.slice A m c).ownBlock = some k → k < y ∨ y' ≤ k
  hl : RdI wr (fun k => y ≤ k ∧ k < y') vl ls
  hy : y' ≤ wr.heap.size
  hyz : y < y' → z ≤ y
  hF : ∀ k, F k → k < w.heap.size
  hS : ∀ k, S k → w.heap.size < k ∧ k < z
  hz : w.heap.size < z ∧ z ≤ wr.heap.size
section
variable {w wr wr' W : World} {F : Nat → Prop} {A1 : Option Addr} {c1 : Nat} {A2 : Option Addr} {c2 : Nat} {A3 : Option Addr} {c3 T N R : Nat} {st : Int} {G : GramD} {b : Nat} {S : Nat → Prop} {n z : Nat} {f f' : Nat → Bool} {A : Option Addr} {m c : Nat} {td : List Int} {y y' : Nat} {vl : Value} {ls : List Int}
theorem RSt.below (h : RSt w wr F A1 c1 A2 c2 A3 c3 T N R st G b S n z f A m c td y y' vl ls) (hb : Below wr.heap.size wr wr') : RSt w wr' F A1 c1 A2 c2 A3 c3 T N R st G b S n z f A m c td y y' vl ls :=
  ⟨h.t.below hb, own_below' h.o hb, h.far, h.hl.below hb (fun k hk => Nat.lt_of_lt_of_le hk.2 h.hy), Nat.le_trans h.hy hb.size, h.hyz, h.hF, h.hS, ⟨h.hz.1, Nat.le_trans h.hz.2 hb.size⟩⟩
theorem RSt.put (h : RSt w wr F A1 c1 A2 c2 A3 c3 T N R st G b S n z f A m c td y y' vl ls) (hs : IsSet wr' b S n f') (ht : Touch S wr wr') : RSt w wr' F A1 c1 A2 c2 A3 c3 T N R st G b S n z f' A m c td y y' vl ls :=
  ⟨h.t.put h.hF (fun k hk => (h.hS k hk).1) hs ht, ht.own h.o (fun k hk hk' => by have := (h.o.lt k hk).1; have := (h.hS k hk').2; omega), h.far, h.hl.touch ht (fun k hk hk' => by have h1 := h.hS k hk'; have h2 := h.hyz (by omega); omega), Nat.le_trans h.hy ht.size, h.hyz, h.hF, h.hS, ⟨h.hz.1, Nat.le_trans h.hz.2 ht.size⟩⟩
theorem RSt.push {x : Int} {B : Option Addr} {d : Nat} (h : RSt w wr F A1 c1 A2 c2 A3 c3 T N R st G b S n z f A m c td y y' vl ls) (hg : wr.grownBy wr' (Value.slice A m c).ownBlock) (ho : wr'.ownsRow z 3 1 (.slice B (m + 1) d) (m + 1) (td.map I64 ++ [I64 x])) (hv : (Value.slice B (m + 1) d).ownBlock = (Value.slice A m c).ownBlock ∨ (Value.slice B (m + 1) d).ownBlock = some wr.heap.size) :
    RSt w wr' F A1 c1 A2 c2 A3 c3 T N R st G b S n z f B (m + 1) d (td ++ [x]) y y' vl ls := by
  have hz : Below z wr wr' := (Below.refl z wr).grown hg h.hz.2 (fun k hk => (h.o.lt k hk).1)
  refine ⟨h.t.belowZ h.hF (fun k hk => (h.hS k hk).2) h.hz.1 hz, by rw [List.map_append]; exact ho, fun k hk => ?_, ?_, Nat.le_trans h.hy hg.size, h.hyz, h.hF, h.hS, ⟨h.hz.1, Nat.le_trans h.hz.2 hg.size⟩⟩
  · rcases hv with hv | hv
    · exact h.far k (hv ▸ hk)
    · rw [hv] at hk
      injection hk with hk
      have := h.hy
      omega
  · exact h.hl.touch ((Touch.refl (fun k => (Value.slice A m c).ownBlock = some k) wr).grown hg (fun k hk _ => hk)) (fun k hk hk' => by have := h.far k hk'; omega)
theorem RSt.alloc (h : RSt w wr F A1 c1 A2 c2 A3 c3 T N R st G b S n z f A m c td y y' vl ls) (o : Obj) : RSt w (wr.alloc o) F A1 c1 A2 c2 A3 c3 T N R st G b S n z f A m c td y y' vl ls :=
  h.below ((Below.refl _ _).alloc (Nat.le_refl _) _)
/-- a new list to be read -/
theorem RSt.read {vl' : Value} {ls' : List Int} (h : RSt w wr F A1 c1 A2 c2 A3 c3 T N R st G b S n z f A m c td y y' vl ls) (hb : Below wr.heap.size wr wr') (hl : RdI wr' (fun k => wr.heap.size ≤ k ∧ k < wr'.heap.size) vl' ls') : RSt w wr' F A1 c1 A2 c2 A3 c3 T N R st G b S n z f A m c td wr.heap.size wr'.heap.size vl' ls' := by
  have h' := h.below hb
  exact ⟨h'.t, h'.o, fun k hk => .inl (h.o.lt k hk).2, hl, Nat.le_refl _, fun _ => h.hz.2, h.hF, h.hS, h'.hz⟩
theorem RSt.rest (h : RSt w wr F A1 c1 A2 c2 A3 c3 T N R st G b S n z f A m c td y y' vl ls) : RSt w wr F A1 c1 A2 c2 A3 c3 T N R st G b S n z f A m c td 0 0 (.slice none 0 0) [] :=
  ⟨h.t, h.o, fun k _ => .inr (Nat.zero_le _), Rd.nil _ _ _, Nat.zero_le _, fun h => absurd h (by omega), h.hF, h.hS, h.hz⟩
theorem RSt.pop {l : Int} (h : RSt w wr F A1 c1 A2 c2 A3 c3 T N R st G b S n z f A (m + 1) c (td ++ [l]) y y' vl ls) : RSt w wr F A1 c1 A2 c2 A3 c3 T N R st G b S n z f A m c td y y' vl ls := by
  have h2 : wr.ownsRow z 3 1 (.slice A m c) m (td.map I64) := own_pop (by have := h.o; rwa [List.map_append] at this)
  refine ⟨h.t, h2, fun k hk => h.far k ?_, h.hl, h.hy, h.hyz, h.hF, h.hS, h.hz⟩
  rw [← hk]
  cases A <;> rfl
end
end Go.Proofs.Ytejjaabkbkkjlaa
