/- Items: plain laws. Of no program. -/
import Derived.Test.YtlpokomfljmogaaGreatG1
import Derived.Shelf.SlSortCmp.NoneTotal
namespace Go.Proofs.YtlpokomfljmogaaGreat
set_option linter.unusedVariables false
section
abbrev It := Int × Int
def itLt (a b : It) : Bool := decide (a.1 < b.1) || (decide (a.1 = b.1) && decide (a.2 < b.2))
theorem itLt_iff {a b : It} : itLt a b = true ↔ a.1 < b.1 ∨ (a.1 = b.1 ∧ a.2 < b.2) := by
 unfold itLt; simp
theorem itLt_not {a b : It} : itLt a b = false ↔ ¬ (a.1 < b.1 ∨ (a.1 = b.1 ∧ a.2 < b.2)) := by
 rw [← itLt_iff, Bool.not_eq_true]
theorem itLt_irr (a : It) : itLt a a = false := by rw [itLt_not]; omega
theorem itLt_trans {a b c : It} (h1 : itLt a b = true) (h2 : itLt b c = true) : itLt a c = true := by
 rw [itLt_iff] at *; omega
theorem itLt_tri {a b : It} (h1 : itLt a b = false) (h2 : itLt b a = false) : a = b := by
 rw [itLt_not] at *
 exact Prod.ext (by omega) (by omega)
def StrictI (l : List It) : Prop := l.Pairwise (fun a b => itLt a b = true)
theorem strict_unique : ∀ {a b : List It}, StrictI a → StrictI b → (∀ x, x ∈ a ↔ x ∈ b) → a = b
 | [], [], _, _, _ => rfl
 | [], y :: t, _, _, h => absurd ((h y).2 (List.mem_cons_self ..)) (by simp)
 | x :: r, [], _, _, h => absurd ((h x).1 (List.mem_cons_self ..)) (by simp)
 | x :: r, y :: t, ha, hb, h => by
  obtain ⟨a1, a2⟩ := List.pairwise_cons.1 ha
  obtain ⟨b1, b2⟩ := List.pairwise_cons.1 hb
  have e : x = y := by
   rcases List.mem_cons.1 ((h x).1 (List.mem_cons_self ..)) with e | e
   ·exact e
   ·rcases List.mem_cons.1 ((h y).2 (List.mem_cons_self ..)) with e' | e'
    ·exact e'.symm
    ·have := itLt_trans (a1 y e') (b1 x e)
     rw [itLt_irr] at this; cases this
  subst e
  rw [strict_unique a2 b2 fun z => ?_]
  constructor
  ·intro hz
   rcases List.mem_cons.1 ((h z).1 (List.mem_cons_of_mem _ hz)) with e | e
   ·subst e; have := a1 z hz; rw [itLt_irr] at this; cases this
   ·exact e
  ·intro hz
   rcases List.mem_cons.1 ((h z).2 (List.mem_cons_of_mem _ hz)) with e | e
   ·subst e; have := b1 z hz; rw [itLt_irr] at this; cases this
   ·exact e
theorem StrictI.nodup {l : List It} (h : StrictI l) : l.Nodup := by
 refine List.Pairwise.imp (fun {a b} hab e => ?_) h
 subst e; rw [itLt_irr] at hab; cases hab
def putI (x : It) : List It → List It
 | [] => [x]
 | y :: r => if itLt y x = true then y :: putI x r else if y = x then y :: r else x :: y :: r
theorem mem_putI {x z : It} : ∀ {l : List It}, z ∈ putI x l ↔ z = x ∨ z ∈ l
 | [] => by simp [putI]
 | y :: r => by
  unfold putI
  split
  ·rw [List.mem_cons, mem_putI, List.mem_cons]
   constructor
   ·rintro (h | h | h) <;> simp [h]
   ·rintro (h | h | h) <;> simp [h]
  ·split
   ·rename_i _ e; subst e; simp
   ·simp
theorem strict_put {x : It} : ∀ {l : List It}, StrictI l → StrictI (putI x l)
 | [], _ => List.pairwise_singleton _ _
 | y :: r, h => by
  obtain ⟨h1, h2⟩ := List.pairwise_cons.1 h
  unfold putI
  split
  ·rename_i hlt
   refine List.pairwise_cons.2 ⟨fun z hz => ?_, strict_put h2⟩
   rcases mem_putI.1 hz with rfl | hz
   ·exact hlt
   ·exact h1 z hz
  ·rename_i hlt
   split
   ·exact h
   ·rename_i hne
    have hxy : itLt x y = true := by
     cases e : itLt x y with
     | true => rfl
     | false => exact absurd (itLt_tri (by simpa using hlt) e) hne
    refine List.pairwise_cons.2 ⟨fun z hz => ?_, h⟩
    rcases List.mem_cons.1 hz with rfl | hz
    ·exact hxy
    ·exact itLt_trans hxy (h1 z hz)
theorem put_at {x : It} : ∀ {l : List It} {k : Nat}, k ≤ l.length → (∀ j y, j < k → l[j]? = some y → itLt y x = true) → (∀ y, l[k]? = some y → itLt y x = false) →
  putI x l = if l[k]? = some x then l else l.take k ++ x :: l.drop k
 | [], k, hk, _, _ => by
  have : k = 0 := by simpa using hk
  subst this; simp [putI]
 | y :: r, 0, _, _, h2 => by
  have := h2 y rfl
  unfold putI
  rw [if_neg (by simp [this])]
  by_cases e : y = x
  ·rw [if_pos e]; simp [e]
  ·rw [if_neg e]; simp [e]
 | y :: r, k + 1, hk, h1, h2 => by
  unfold putI
  rw [if_pos (h1 0 y (by omega) rfl)]
  rw [put_at (l := r) (k := k) (by simpa using hk) (fun j z hj hz => h1 (j + 1) z (by omega) (by simpa using hz)) (fun z hz => h2 z (by simpa using hz))]
  rw [List.getElem?_cons_succ]
  split <;> simp
def canonI (l : List It) : List It := l.foldl (fun o x => putI x o) []
theorem canon_from : ∀ (l o : List It), StrictI o → StrictI (l.foldl (fun o x => putI x o) o) ∧ ∀ z, z ∈ l.foldl (fun o x => putI x o) o ↔ z ∈ l ∨ z ∈ o
 | [], o, h => ⟨h, fun z => by simp⟩
 | x :: r, o, h => by
  obtain ⟨h1, h2⟩ := canon_from r (putI x o) (strict_put h)
  refine ⟨h1, fun z => ?_⟩
  rw [List.foldl_cons, h2, mem_putI, List.mem_cons]
  constructor
  ·rintro (h | h | h) <;> simp [h]
  ·rintro ((h | h) | h) <;> simp [h]
theorem canon_strict (l : List It) : StrictI (canonI l) := (canon_from l [] List.Pairwise.nil).1
theorem mem_canon {l : List It} {z : It} : z ∈ canonI l ↔ z ∈ l := by
 rw [show (z ∈ canonI l) = _ from rfl]
 unfold canonI
 rw [(canon_from l [] List.Pairwise.nil).2]; simp
theorem canon_snoc (l : List It) (x : It) : canonI (l ++ [x]) = putI x (canonI l) := by unfold canonI; rw [List.foldl_append]; rfl
theorem canon_eq {l o : List It} (h : StrictI o) (hm : ∀ z, z ∈ o ↔ z ∈ l) : o = canonI l := strict_unique h (canon_strict l) fun z => by rw [hm, mem_canon]
theorem put_len (x : It) : ∀ l : List It, (putI x l).length ≤ l.length + 1
 | [] => by simp [putI]
 | y :: r => by
  unfold putI
  split
  ·have := put_len x r; simp; omega
  ·split <;> simp
theorem canon_len (l : List It) : (canonI l).length ≤ l.length := by
 have : ∀ (l o : List It), (l.foldl (fun o x => putI x o) o).length ≤ l.length + o.length := by
  intro l
  induction l with
  | nil => intro o; simp
  | cons x r ih => intro o; rw [List.foldl_cons]; have := ih (putI x o); have := put_len x o; simp; omega
 have := this l []
 simpa [canonI] using this
theorem put_ne {x : It} {l : List It} : putI x l ≠ [] := fun e => by
 have := (mem_putI (x := x) (z := x) (l := l)).2 (.inl rfl)
 rw [e] at this; cases this
def WeakI (l : List It) : Prop := l.Pairwise (fun a b => itLt b a = false)
def compI (l : List It) : List It := l.foldl (fun o x => if o.getLast? = some x then o else o ++ [x]) []
theorem comp_snoc (l : List It) (x : It) : compI (l ++ [x]) = if (compI l).getLast? = some x then compI l else compI l ++ [x] := by unfold compI; rw [List.foldl_append]; rfl
theorem comp_last : ∀ (l : List It), (compI l).getLast? = l.getLast? := by
 intro l
 rcases List.eq_nil_or_concat l with rfl | ⟨p, x, rfl⟩
 ·rfl
 ·rw [List.concat_eq_append, comp_snoc]
  split
  ·rename_i h; rw [h]; simp
  ·simp
theorem comp_strict : ∀ (n : Nat) (l : List It), l.length = n → WeakI l → StrictI (compI l) ∧ ∀ z, z ∈ compI l ↔ z ∈ l
 | 0, l, hn, _ => by
  obtain rfl := List.length_eq_zero_iff.1 hn
  exact ⟨List.Pairwise.nil, fun z => Iff.rfl⟩
 | n + 1, l, hn, h => by
  rcases List.eq_nil_or_concat l with rfl | ⟨p, x, rfl⟩
  ·simp at hn
  ·rw [List.concat_eq_append] at hn h ⊢
   obtain ⟨h1, h2, h3⟩ := List.pairwise_append.1 h
   obtain ⟨k1, k2⟩ := comp_strict n p (by simpa using hn) h1
   rw [comp_snoc]
   split
   ·rename_i e
    refine ⟨k1, fun z => ?_⟩
    rw [k2, List.mem_append, List.mem_singleton]
    refine ⟨.inl, fun hz => hz.elim id fun e' => ?_⟩
    subst e'
    exact (k2 z).1 (List.mem_of_getLast? e)
   ·rename_i e
    refine ⟨List.pairwise_append.2 ⟨k1, List.pairwise_singleton _ _, fun a ha b hb => ?_⟩, fun z => by rw [List.mem_append, k2, List.mem_append]⟩
    obtain rfl := List.mem_singleton.1 hb
    have hle := h3 a ((k2 a).1 ha) b (by simp)
    cases e1 : itLt a b with
    | true => rfl
    | false =>
     exfalso
     have hab := itLt_tri e1 hle
     subst hab
     -- a stands in compI p, and is the greatest of them: so it is the last
     obtain ⟨q, y, hq⟩ : ∃ q y, compI p = q ++ [y] := by
      rcases List.eq_nil_or_concat (compI p) with hq | ⟨q, y, hq⟩
      ·rw [hq] at ha; cases ha
      ·exact ⟨q, y, by rw [hq, List.concat_eq_append]⟩
     rw [hq] at ha e k1
     have hy : y ≠ a := fun e' => e (by rw [e']; simp)
     rcases List.mem_append.1 ha with ha' | ha'
     ·have h4 := (List.pairwise_append.1 k1).2.2 a ha' y (by simp)
      have h5 := h3 y ((k2 y).1 (by rw [hq]; simp)) a (by simp)
      rw [h4] at h5; cases h5
     ·exact hy (List.mem_singleton.1 ha').symm
theorem comp_canon {l o : List It} (h : WeakI o) (hm : ∀ z, z ∈ o ↔ z ∈ l) : compI o = canonI l := by
 obtain ⟨h1, h2⟩ := comp_strict _ o rfl h
 exact canon_eq h1 fun z => by rw [h2, hm]
theorem comp_len : ∀ (n : Nat) (l : List It), l.length = n → (compI l).length ≤ l.length
 | 0, l, hn => by
  obtain rfl := List.length_eq_zero_iff.1 hn
  exact Nat.le_refl _
 | n + 1, l, hn => by
  rcases List.eq_nil_or_concat l with rfl | ⟨p, x, rfl⟩
  ·simp at hn
  ·rw [List.concat_eq_append] at hn ⊢
   have := comp_len n p (by simpa using hn)
   rw [comp_snoc]
   split <;> simp <;> omega
theorem comp_next {l : List It} {r : Nat} {x y : It} (hy : l[r]? = some y) (hx : l[r + 1]? = some x) : compI (l.take (r + 2)) = if y = x then compI (l.take (r + 1)) else compI (l.take (r + 1)) ++ [x] := by
 have h1 : l.take (r + 1 + 1) = l.take (r + 1) ++ [x] := by rw [List.take_add_one, hx]; rfl
 have h2 : l.take (r + 1) = l.take r ++ [y] := by rw [List.take_add_one, hy]; rfl
 rw [show r + 2 = r + 1 + 1 from rfl, h1, comp_snoc, comp_last]
 have : (l.take (r + 1)).getLast? = some y := by rw [h2]; simp
 rw [this]
 by_cases e : y = x
 ·rw [if_pos e, if_pos (by rw [e])]
 ·rw [if_neg e, if_neg (fun h => e (by injection h))]
theorem comp_first {l : List It} : compI (l.take 1) = l.take 1 := by
 cases l with
 | nil => rfl
 | cons x r => rfl
theorem comp_short {l : List It} (h : l.length < 2) : compI l = l := by
 match l, h with
 | [], _ => rfl
 | [x], _ => rfl
def rightI (G : GramD) (st : Int) (x : It) : Bool := (ruleOf G st x.1).2 && (decide (0 ≤ x.2) && decide (x.2 ≤ (ruleOf G st x.1).1.2.length))
def behindI (G : GramD) (st : Int) (x : It) : Int × Bool := if rightI G st x = true ∧ x.2 < (ruleOf G st x.1).1.2.length then (((ruleOf G st x.1).1.2[x.2.toNat]?).getD 0, true) else (0, false)
def kernI (G : GramD) (st : Int) (x : It) : Bool := rightI G st x && (decide (0 < x.2) || decide (x.1 = (G.rules.length : Int)))
inductive Cl (G : GramD) (st : Int) (l : List It) : It → Prop
 | base (x : It) : x ∈ l → rightI G st x = true → Cl G st l x
 | next (y : It) (s k : Int) : Cl G st l y → behindI G st y = (s, true) → k ∈ ofOf G s → Cl G st l (k, 0)
def stepsI (G : GramD) (st : Int) (l : List It) (s : Int) : List It := (l.filter fun x => decide (behindI G st x = (s, true))).map fun x => (x.1, x.2 + 1)
theorem ruleOf_nat {G : GramD} {st : Int} {n : Nat} {r : Int × List Int} (h : G.rules[n]? = some r) : ruleOf G st n = (r, true) := by
 have hn := (List.getElem?_eq_some_iff.1 h).1
 unfold ruleOf
 rw [if_neg (by omega), if_neg (by omega), Int.toNat_natCast, h]; rfl
theorem right_new {G : GramD} {st s k : Int} (h : k ∈ ofOf G s) : rightI G st (k, 0) = true := by
 obtain ⟨n, x, rfl, hx⟩ := of_mem.1 h
 unfold rightI
 rw [ruleOf_nat hx]
 simp
theorem new_low {G : GramD} {s k : Int} (h : k ∈ ofOf G s) : 0 ≤ k ∧ k < G.rules.length := by
 obtain ⟨n, x, rfl, hx⟩ := of_mem.1 h
 have := (List.getElem?_eq_some_iff.1 hx).1
 omega
theorem Cl.right {G : GramD} {st : Int} {l : List It} {x : It} (h : Cl G st l x) : rightI G st x = true := by
 cases h with
 | base _ _ h => exact h
 | next y s k _ _ h => exact right_new h
theorem behind_right {G : GramD} {st : Int} {x : It} {s : Int} (h : behindI G st x = (s, true)) : rightI G st x = true ∧ x.2 < (ruleOf G st x.1).1.2.length ∧ (ruleOf G st x.1).1.2[x.2.toNat]? = some s := by
 unfold behindI at h
 split at h
 ·rename_i h1
  refine ⟨h1.1, h1.2, ?_⟩
  injection h with h _
  have h0 := h1.1
  unfold rightI at h0
  simp only [Bool.and_eq_true, decide_eq_true_eq] at h0
  have hlt : x.2.toNat < (ruleOf G st x.1).1.2.length := by omega
  rw [List.getElem?_eq_getElem hlt] at h ⊢
  simp at h
  rw [h]
 ·injection h with _ h; cases h
theorem step_right {G : GramD} {st : Int} {x : It} {s : Int} (h : behindI G st x = (s, true)) : rightI G st (x.1, x.2 + 1) = true ∧ 0 < x.2 + 1 := by
 obtain ⟨h1, h2, -⟩ := behind_right h
 unfold rightI at h1 ⊢
 simp only [Bool.and_eq_true, decide_eq_true_eq] at h1 ⊢
 exact ⟨⟨h1.1, by omega, by omega⟩, by omega⟩
structure IsCl (G : GramD) (st : Int) (l o : List It) : Prop where
 strict : StrictI o
 mem : ∀ z, z ∈ o ↔ Cl G st l z
theorem IsCl.unique {G : GramD} {st : Int} {l l' o o' : List It} (h : IsCl G st l o) (h' : IsCl G st l' o') (he : ∀ z, Cl G st l z ↔ Cl G st l' z) : o = o' :=
 strict_unique h.strict h'.strict fun z => by rw [h.mem, h'.mem, he]
theorem Cl.mono {G : GramD} {st : Int} {l l' : List It} (h : ∀ z ∈ l, rightI G st z = true → Cl G st l' z) {z : It} (hz : Cl G st l z) : Cl G st l' z := by
 induction hz with
 | base x hx hr => exact h x hx hr
 | next y s k _ hb hk ih => exact Cl.next y s k ih hb hk
theorem Cl.again {G : GramD} {st : Int} {l o : List It} (ho : ∀ z, z ∈ o ↔ Cl G st l z) {z : It} : Cl G st o z ↔ Cl G st l z :=
 ⟨Cl.mono fun x hx _ => (ho x).1 hx, fun h => Cl.base z ((ho z).2 h) h.right⟩
theorem Cl.same {G : GramD} {st : Int} {l l' : List It} (h : ∀ z, z ∈ l ↔ z ∈ l') {z : It} : Cl G st l z ↔ Cl G st l' z :=
 ⟨Cl.mono fun x hx hr => Cl.base x ((h x).1 hx) hr, Cl.mono fun x hx hr => Cl.base x ((h x).2 hx) hr⟩
def kernsI (G : GramD) (st : Int) (l : List It) : List It := l.filter (kernI G st)
theorem steps_mem {G : GramD} {st : Int} {l : List It} {s : Int} {z : It} (h : z ∈ stepsI G st l s) : rightI G st z = true ∧ 0 < z.2 := by
 unfold stepsI at h
 obtain ⟨x, hx, rfl⟩ := List.mem_map.1 h
 exact step_right (of_decide_eq_true (List.mem_filter.1 hx).2)
theorem kern_steps {G : GramD} {st : Int} {l : List It} {s : Int} : canonI (kernsI G st (canonI (stepsI G st l s))) = canonI (stepsI G st l s) := by
 refine (canon_eq (canon_strict _) fun z => ?_).symm
 unfold kernsI
 rw [List.mem_filter]
 refine ⟨fun h => ⟨h, ?_⟩, fun h => h.1⟩
 obtain ⟨h1, h2⟩ := steps_mem (mem_canon.1 h)
 unfold kernI
 rw [h1, decide_eq_true h2]; rfl
theorem kern_closed {G : GramD} {st : Int} {l o : List It} {s : Int} (ho : IsCl G st (canonI (stepsI G st l s)) o) : canonI (kernsI G st o) = canonI (stepsI G st l s) := by
 refine (canon_eq (canon_strict _) fun z => ?_).symm
 unfold kernsI
 rw [List.mem_filter, ho.mem]
 constructor
 ·intro h
  obtain ⟨h1, h2⟩ := steps_mem (mem_canon.1 h)
  exact ⟨Cl.base z h h1, by unfold kernI; rw [h1, decide_eq_true h2]; rfl⟩
 ·rintro ⟨h1, h2⟩
  cases h1 with
  | base _ h _ => exact h
  | next y s' k _ _ hk =>
   exfalso
   unfold kernI at h2
   rw [Bool.and_eq_true, Bool.or_eq_true, decide_eq_true_eq, decide_eq_true_eq] at h2
   have := new_low hk
   rcases h2.2 with h | h
   ·simp only at h; omega
   ·simp only at h; omega
theorem take_snoc {l : List It} {k : Nat} {x : It} (h : l[k]? = some x) : l.take (k + 1) = l.take k ++ [x] := by
 rw [List.take_add_one, h]; rfl
theorem steps_yes {G : GramD} {st : Int} {l : List It} {s : Int} {k : Nat} {x : It} (h : l[k]? = some x) (hb : behindI G st x = (s, true)) : stepsI G st (l.take (k + 1)) s = stepsI G st (l.take k) s ++ [(x.1, x.2 + 1)] := by
 rw [take_snoc h]; unfold stepsI; rw [List.filter_append, List.map_append, List.filter_cons_of_pos (by simp [hb])]; rfl
theorem steps_no {G : GramD} {st : Int} {l : List It} {s : Int} {k : Nat} {x : It} (h : l[k]? = some x) (hb : behindI G st x ≠ (s, true)) : stepsI G st (l.take (k + 1)) s = stepsI G st (l.take k) s := by
 rw [take_snoc h]; unfold stepsI; rw [List.filter_append, List.map_append, List.filter_cons_of_neg (by simpa using hb)]; simp
theorem steps_len (G : GramD) (st : Int) (l : List It) (s : Int) : (stepsI G st l s).length ≤ l.length := by
 unfold stepsI; rw [List.length_map]; exact List.length_filter_le _ _
theorem kerns_yes {G : GramD} {st : Int} {l : List It} {k : Nat} {x : It} (h : l[k]? = some x) (hb : kernI G st x = true) : kernsI G st (l.take (k + 1)) = kernsI G st (l.take k) ++ [x] := by
 rw [take_snoc h]; unfold kernsI; rw [List.filter_append, List.filter_cons_of_pos hb]; rfl
theorem kerns_no {G : GramD} {st : Int} {l : List It} {k : Nat} {x : It} (h : l[k]? = some x) (hb : kernI G st x = false) : kernsI G st (l.take (k + 1)) = kernsI G st (l.take k) := by
 rw [take_snoc h]; unfold kernsI; rw [List.filter_append, List.filter_cons_of_neg (by simp [hb])]; simp
theorem kerns_len (G : GramD) (st : Int) (l : List It) : (kernsI G st l).length ≤ l.length := by
 unfold kernsI; exact List.length_filter_le _ _
def ShortG (G : GramD) (st : Int) : Prop := ∀ i, (ruleOf G st i).1.2.length ≤ 1000
def allIt (G : GramD) (st : Int) : List It := (List.range (G.rules.length + 1)).flatMap fun (i : Nat) => (List.range ((ruleOf G st (i : Int)).1.2.length + 1)).map fun (d : Nat) => (((i : Int), (d : Int)) : It)
theorem mem_allIt {G : GramD} {st : Int} {x : It} (h : rightI G st x = true) : x ∈ allIt G st := by
 unfold rightI at h
 simp only [Bool.and_eq_true, decide_eq_true_eq] at h
 obtain ⟨h1, h2, h3⟩ := h
 have hr : 0 ≤ x.1 ∧ x.1 ≤ G.rules.length := by
  unfold ruleOf at h1
  split at h1
  ·cases h1
  ·omega
 unfold allIt
 rw [List.mem_flatMap]
 refine ⟨x.1.toNat, List.mem_range.2 (by omega), ?_⟩
 rw [Int.toNat_of_nonneg hr.1, List.mem_map]
 exact ⟨x.2.toNat, List.mem_range.2 (by omega), Prod.ext rfl (Int.toNat_of_nonneg h2)⟩
def missI (G : GramD) (st : Int) (o : List It) : Nat := ((allIt G st).filter fun x => decide (x ∉ o)).length
theorem filter_len_lt {l : List It} {p q : It → Bool} (h : ∀ x, p x = true → q x = true) {a : It} (ha : a ∈ l) (h1 : q a = true) (h2 : p a = false) : (l.filter p).length < (l.filter q).length := by
 induction l with
 | nil => cases ha
 | cons y r ih =>
  have hle : (r.filter p).length ≤ (r.filter q).length := by
   clear ih ha
   induction r with
   | nil => exact Nat.le_refl _
   | cons z t ih =>
    rw [List.filter_cons, List.filter_cons]
    cases hp : p z with
    | true => rw [h z hp]; simp; omega
    | false => cases q z <;> simp <;> omega
  rw [List.filter_cons, List.filter_cons]
  rcases List.mem_cons.1 ha with e | e
  ·subst e; rw [h1, h2]; simp; omega
  ·have := ih e
   cases hp : p y with
   | true => rw [h y hp]; simp; omega
   | false => cases q y <;> simp <;> omega
theorem miss_lt {G : GramD} {st : Int} {o o' : List It} (h : ∀ x ∈ o, x ∈ o') {a : It} (ha : rightI G st a = true) (h1 : a ∉ o) (h2 : a ∈ o') : missI G st o' < missI G st o := by
 unfold missI
 exact filter_len_lt (fun x hx => by rw [decide_eq_true_eq] at hx ⊢; exact fun hh => hx (h x hh)) (mem_allIt ha) (by simpa using h1) (by simpa using h2)
theorem miss_snoc {G : GramD} {st : Int} {o : List It} {a : It} (ha : rightI G st a = true) (h1 : a ∉ o) : missI G st (o ++ [a]) + 1 ≤ missI G st o :=
 miss_lt (fun x hx => List.mem_append_left _ hx) ha h1 (by simp)
structure ClSt (G : GramD) (st : Int) (l : List It) (i : Nat) (o : List It) : Prop where
 nodup : o.Nodup
 sound : ∀ z ∈ o, Cl G st l z
 base : ∀ z ∈ l, rightI G st z = true → z ∈ o
 done : ∀ (j : Nat) (y : It) (s k : Int), j < i → o[j]? = some y → behindI G st y = (s, true) → k ∈ ofOf G s → (k, 0) ∈ o
theorem ClSt.is {G : GramD} {st : Int} {l : List It} {i : Nat} {o : List It} (h : ClSt G st l i o) (hi : o.length ≤ i) : IsCl G st l (canonI o) := by
 refine ⟨canon_strict _, fun z => ?_⟩
 rw [mem_canon]
 refine ⟨h.sound z, fun hz => ?_⟩
 induction hz with
 | base x hx hr => exact h.base x hx hr
 | next y s k _ hb hk ih =>
  obtain ⟨j, hj, e⟩ := List.getElem_of_mem ih
  exact h.done j y s k (by omega) (by rw [List.getElem?_eq_getElem hj, e]) hb hk
def addI (o : List It) (x : It) (r : Bool) : List It := if (!decide (x ∈ o) && r) = true then o ++ [x] else o
theorem addI_mem {o : List It} {x z : It} {r : Bool} : z ∈ addI o x r ↔ z ∈ o ∨ (z = x ∧ r = true) := by
 unfold addI
 by_cases hx : x ∈ o
 ·rw [if_neg (by simp [hx])]
  exact ⟨.inl, fun h => h.elim id fun e => e.1 ▸ hx⟩
 ·cases r with
  | true => rw [if_pos (by simp [hx])]; simp
  | false => rw [if_neg (by simp)]; simp
theorem addI_nodup {o : List It} {x : It} {r : Bool} (h : o.Nodup) : (addI o x r).Nodup := by
 unfold addI
 split
 ·rename_i hc
  rw [Bool.and_eq_true, Bool.not_eq_true', decide_eq_false_iff_not] at hc
  exact List.nodup_append.2 ⟨h, by simp, fun a ha b hb => by
   have : b = x := by simpa using hb
   subst this
   exact fun e => hc.1 (e ▸ ha)⟩
 ·exact h
theorem addI_get {o : List It} {x : It} {r : Bool} {j : Nat} (h : j < o.length) : (addI o x r)[j]? = o[j]? := by
 unfold addI
 split
 ·rw [List.getElem?_append_left h]
 ·rfl
theorem addI_len {o : List It} {x : It} {r : Bool} : o.length ≤ (addI o x r).length := by
 unfold addI; split <;> simp
theorem addI_miss {G : GramD} {st : Int} {o : List It} {x : It} : missI G st (addI o x (rightI G st x)) + (addI o x (rightI G st x)).length ≤ missI G st o + o.length := by
 unfold addI
 split
 ·rename_i hc
  rw [Bool.and_eq_true, Bool.not_eq_true', decide_eq_false_iff_not] at hc
  have := miss_snoc hc.2 hc.1
  simp; omega
 ·exact Nat.le_refl _
theorem put_same {x : It} {l : List It} (h : StrictI l) (hx : x ∈ l) : putI x l = l := strict_unique (strict_put h) h fun z => by
 rw [mem_putI]; exact ⟨fun e => e.elim (fun e => e ▸ hx) id, .inr⟩
theorem put_new {x : It} : ∀ {l : List It}, x ∉ l → (putI x l).length = l.length + 1
 | [], _ => rfl
 | y :: r, h => by
  rw [List.mem_cons, not_or] at h
  unfold putI
  split
  ·rw [List.length_cons, put_new h.2]; rfl
  ·rw [if_neg (fun e => h.1 e.symm)]; rfl
def moreI (rs : List Int) (o : List It) : List It := rs.foldl (fun o r => putI (r, 0) o) o
theorem more_snoc (rs : List Int) (r : Int) (o : List It) : moreI (rs ++ [r]) o = putI (r, 0) (moreI rs o) := by unfold moreI; rw [List.foldl_append]; rfl
theorem more_len : ∀ (rs : List Int) {o : List It}, StrictI o → o.length ≤ (moreI rs o).length ∧ ((moreI rs o).length = o.length → moreI rs o = o ∧ ∀ r ∈ rs, ((r, 0) : It) ∈ o)
 | [], o, h => ⟨Nat.le_refl _, fun _ => ⟨rfl, fun _ hr => by cases hr⟩⟩
 | r :: rs, o, h => by
  show o.length ≤ (moreI rs (putI (r, 0) o)).length ∧ ((moreI rs (putI (r, 0) o)).length = o.length → moreI rs (putI (r, 0) o) = o ∧ _)
  by_cases hx : ((r, 0) : It) ∈ o
  ·rw [put_same h hx]
   obtain ⟨h1, h2⟩ := more_len rs h
   exact ⟨h1, fun e => ⟨(h2 e).1, fun q hq => (List.mem_cons.1 hq).elim (fun e' => e' ▸ hx) ((h2 e).2 q)⟩⟩
  ·obtain ⟨h1, -⟩ := more_len rs (strict_put (x := (r, 0)) h)
   have h3 := put_new hx
   exact ⟨by omega, fun e => by omega⟩
structure OkI (G : GramD) (st : Int) (l o : List It) : Prop where
 strict : StrictI o
 sound : ∀ z ∈ o, Cl G st l z
 bound : missI G st o + o.length ≤ (allIt G st).length
theorem OkI.nil {G : GramD} {st : Int} {l : List It} : OkI G st l [] := ⟨List.Pairwise.nil, fun _ h => (by cases h), (by unfold missI; rw [List.length_nil, Nat.add_zero]; exact List.length_filter_le _ _)⟩
theorem OkI.put {G : GramD} {st : Int} {l o : List It} {x : It} (h : OkI G st l o) (hx : Cl G st l x) : OkI G st l (putI x o) := by
 refine ⟨strict_put h.strict, fun z hz => (mem_putI.1 hz).elim (fun e => e ▸ hx) (h.sound z), ?_⟩
 by_cases hm : x ∈ o
 ·rw [put_same h.strict hm]; exact h.bound
 ·have h1 := put_new hm
  have h2 : missI G st (putI x o) < missI G st o := miss_lt (fun z hz => mem_putI.2 (.inr hz)) hx.right hm (mem_putI.2 (.inl rfl))
  have h3 := h.bound
  omega
theorem OkI.more {G : GramD} {st : Int} {l : List It} {y : It} {s : Int} (hs : behindI G st y = (s, true)) (hy : Cl G st l y) : ∀ (rs : List Int) {o : List It}, OkI G st l o → (∀ r ∈ rs, r ∈ ofOf G s) → OkI G st l (moreI rs o)
 | [], o, h, _ => h
 | r :: rs, o, h, hr => OkI.more hs hy rs (h.put (Cl.next y s r hy hs (hr r (by simp)))) fun q hq => hr q (by simp [hq])
theorem more_sub {x : It} : ∀ (rs : List Int) {o : List It}, x ∈ o → x ∈ moreI rs o
 | [], _, h => h
 | r :: rs, o, h => more_sub rs (mem_putI.2 (.inr h))
theorem more_mem {x : It} : ∀ (rs : List Int) {o : List It}, x ∈ moreI rs o → x ∈ o ∨ ∃ r ∈ rs, x = (r, 0)
 | [], _, h => .inl h
 | r :: rs, o, h => by
  rcases more_mem rs h with h | ⟨q, hq, e⟩
  ·rcases mem_putI.1 h with h | h
   ·exact .inr ⟨r, by simp, h⟩
   ·exact .inl h
  ·exact .inr ⟨q, by simp [hq], e⟩
theorem more_miss_lt {G : GramD} {st : Int} {s : Int} {rs : List Int} {o : List It} (ho : StrictI o) (hr : ∀ r ∈ rs, r ∈ ofOf G s) (hl : (moreI rs o).length ≠ o.length) : missI G st (moreI rs o) < missI G st o := by
 obtain ⟨r, hr1, hr2⟩ : ∃ r ∈ rs, ((r, 0) : It) ∉ o := by
  apply Classical.byContradiction
  intro hno
  apply hl
  have : ∀ (rs : List Int), (∀ r ∈ rs, ((r, 0) : It) ∈ o) → moreI rs o = o := by
   intro rs
   induction rs with
   | nil => intro _; rfl
   | cons r rs ih =>
    intro h
    show moreI rs (putI (r, 0) o) = o
    rw [put_same ho (h r (by simp))]
    exact ih fun q hq => h q (by simp [hq])
  rw [this rs fun r hr => Classical.byContradiction fun hn => hno ⟨r, hr, hn⟩]
 refine miss_lt (fun z hz => more_sub rs hz) (right_new (hr r hr1)) hr2 ?_
 have : ∀ (rs : List Int) {o : List It}, r ∈ rs → ((r, 0) : It) ∈ moreI rs o := by
  intro rs
  induction rs with
  | nil => intro o h; cases h
  | cons q rs ih =>
   intro o h
   rcases List.mem_cons.1 h with e | e
   ·subst e; exact more_sub rs (mem_putI.2 (.inl rfl))
   ·exact ih e
 exact this rs hr1
def DoneI (G : GramD) (st : Int) (o : List It) (y : It) : Prop := ∀ s k, behindI G st y = (s, true) → k ∈ ofOf G s → ((k, 0) : It) ∈ o
theorem OkI.is {G : GramD} {st : Int} {l o : List It} (h : OkI G st l o) (hb : ∀ z ∈ l, rightI G st z = true → z ∈ o) (hd : ∀ y ∈ o, DoneI G st o y) : IsCl G st l o :=
 ⟨h.strict, fun z => ⟨h.sound z, fun hz => by
  induction hz with
  | base x hx hr => exact hb x hx hr
  | next y s k _ hs hk ih => exact hd y ih s k hs hk⟩⟩
theorem all_len {G : GramD} {st : Int} (hs : ShortG G st) (hr : G.rules.length ≤ 300) : (allIt G st).length ≤ 400000 := by
 have key : ∀ n : Nat, ((List.range n).flatMap fun (i : Nat) => (List.range ((ruleOf G st (i : Int)).1.2.length + 1)).map fun (d : Nat) => (((i : Int), (d : Int)) : It)).length ≤ n * 1001 := by
  intro n
  induction n with
  | zero => simp
  | succ n ih =>
   rw [List.range_succ, List.flatMap_append, List.length_append]
   have := hs (n : Int)
   simp only [List.flatMap_cons, List.flatMap_nil, List.append_nil, List.length_map, List.length_range] at ih ⊢
   omega
 have := key (G.rules.length + 1)
 unfold allIt
 omega
end
section
open Go.Sort
def cfI (x y : It) : Int := if x.1 < y.1 then -1 else if y.1 < x.1 then 1 else if x.2 < y.2 then -1 else if y.2 < x.2 then 1 else 0
theorem lt_cfI (x y : It) : ltOf cfI x y = itLt x y := by
 unfold ltOf cfI
 rw [Bool.eq_iff_iff, decide_eq_true_eq, itLt_iff]
 split
 ·simp; omega
 ·split
  ·simp; omega
  ·split
   ·simp; omega
   ·split
    ·simp; omega
    ·simp; omega
theorem swoI : SWO (ltOf cfI) where
 irrefl x := by rw [lt_cfI]; exact itLt_irr x
 trans x y z h1 h2 := by rw [lt_cfI] at *; exact itLt_trans h1 h2
 ntrans x y z h1 h2 := by rw [lt_cfI, itLt_not] at *; omega
theorem partI (x y : It) (h1 : ltOf cfI x y = false) (h2 : ltOf cfI y x = false) : x = y := by
 rw [lt_cfI] at *; exact itLt_tri h1 h2
def sortI (l : List It) : List It := l.mergeSort fun x y => !(ltOf cfI) y x
theorem sort_mem {l : List It} {z : It} : z ∈ sortI l ↔ z ∈ l := (List.mergeSort_perm l _).mem_iff
theorem sort_length (l : List It) : (sortI l).length = l.length := (List.mergeSort_perm l _).length_eq
theorem sort_weak (l : List It) : WeakI (sortI l) := by
 have := List.pairwise_mergeSort (le := fun x y : It => !(ltOf cfI) y x) (fun a b c h1 h2 => by
  rw [Bool.not_eq_true', lt_cfI, itLt_not] at *; omega) (fun a b => by
  rw [Bool.or_eq_true, Bool.not_eq_true', Bool.not_eq_true', lt_cfI, lt_cfI, itLt_not, itLt_not]; omega) l
 refine List.Pairwise.imp (fun {a b} h => ?_) this
 rw [Bool.not_eq_true', lt_cfI] at h
 exact h
theorem sort_canon (l : List It) : compI (sortI l) = canonI l := comp_canon (sort_weak l) fun z => sort_mem
end
end Go.Proofs.YtlpokomfljmogaaGreat
