/- Least words, the reference's: the rows made and turned. -/
import Derived.Test.YtejjaabkbkkjlaaLeast7
import Derived.Test.YtejjaabkbkkjlaaLeast5
import Derived.Deep.OwnRows
namespace Go.Proofs.Ytejjaabkbkkjlaa
set_option linter.unusedVariables false
open Go.RowKit
attribute [local irreducible] wpStill wpOne wpPh

theorem Try.infoInts : (Try.prog.info? 28).map (fun i => (i.zero, i.size, i.bytes)) = some (some (.slice none 0 0), 1, 24) := by kernel_rfl
theorem Try.infoBool : (Try.prog.info? 4).map (fun i => (i.zero, i.size, i.bytes)) = some (some (.bool false), 1, 1) := by kernel_rfl
theorem make_ints (n : Nat) (hn : n ≤ 65536) (w : World) : (Instr.makeSlice 89 (.int .i64 (n : Int)) (.int .i64 (n : Int))).run Try.prog w = .ok (.slice (some ⟨w.heap.size, 0, none⟩) n n) (w.alloc (.cells (madeCells #[.slice none 0 0] n) 28)) :=
  run_make_row' _ _ _ 24 Try.underlying89 Try.infoInts rfl .i64 .i64 n (by omega) (by omega) w
theorem make_bools (n : Nat) (hn : n ≤ 65536) (w : World) : (Instr.makeSlice 90 (.int .i64 (n : Int)) (.int .i64 (n : Int))).run Try.prog w = .ok (.slice (some ⟨w.heap.size, 0, none⟩) n n) (w.alloc (.cells (madeCells #[.bool false] n) 4)) :=
  run_make_row' _ _ _ 1 Try.underlying90 Try.infoBool rfl .i64 .i64 n (by omega) (by omega) w
theorem made_one (z : Value) (n i : Nat) (hi : i < n) : (madeCells #[z] n)[i]? = some z := by
  rw [made_at _ _ _ (by simp) hi]
  have : i % (#[z] : Array Value).size = 0 := by simp [Nat.mod_one]
  rw [this]; rfl
theorem RefWords.made {w : World} {F : Nat → Prop} {b gl gi gm n : Nat} (hb : Blk w b 92 #[.slice (some ⟨gl, 0, none⟩) n n, .slice (some ⟨gi, 0, none⟩) n n, .slice (some ⟨gm, 0, none⟩) n n])
    (hL : Blk w gl 28 (madeCells #[.slice none 0 0] n)) (hI : Blk w gi 4 (madeCells #[.bool false] n)) (hM : Blk w gm 4 (madeCells #[.bool false] n)) (ha : gi ≠ gm) (hn : n ≤ 65536)
    (hF : ∀ k, F k → k < w.heap.size ∧ k ≠ gl ∧ k ≠ gi ∧ k ≠ gm) : RefWords w F b gl gi gm (List.replicate n noFound) := by
  have at_ : ∀ (i : Nat) (x : FoundD), (List.replicate n noFound)[i]? = some x → x = noFound ∧ i < n := fun i x hx => by
    have hi := (List.getElem?_eq_some_iff.1 hx).1
    rw [List.length_replicate] at hi
    exact ⟨(List.mem_replicate.1 (List.mem_of_getElem? hx)).2, hi⟩
  refine ⟨by simpa using hb, ⟨_, hL, by simp [size_madeCells], fun i x hx => ?_⟩, ⟨_, hI, by simp [size_madeCells], fun i x hx => ?_⟩, ⟨_, hM, by simp [size_madeCells], fun i x hx => ?_⟩, ha, fun k hk => (hF k hk).1, fun k hk => (hF k hk).2, fun x hx => by rw [(List.mem_replicate.1 hx).2]; simp [noFound], by simpa using hn⟩
  all_goals obtain ⟨rfl, hi⟩ := at_ i x hx
  · exact ⟨_, made_one _ _ _ hi, Rd.nil _ _ _⟩
  · exact made_one _ _ _ hi
  · exact made_one _ _ _ hi
section
variable {w : World} {F : Nat → Prop} {b gl gi gm : Nat} {S : List FoundD} {k : Nat} {x : FoundD}
theorem set_at {S : List FoundD} {k i : Nat} {x y : FoundD} (hk : k < S.length) (h : (S.set k x)[i]? = some y) : (i = k ∧ y = x) ∨ (i ≠ k ∧ S[i]? = some y) := by
  by_cases e : i = k
  · subst e
    rw [List.getElem?_set_self hk] at h
    injection h with h
    exact .inl ⟨rfl, h.symm⟩
  · rw [List.getElem?_set_ne (fun e' => e e'.symm)] at h
    exact .inr ⟨e, h⟩
theorem RefWords.nes (h : RefWords w F b gl gi gm S) : b ≠ gl ∧ b ≠ gi ∧ b ≠ gm ∧ gl ≠ gi ∧ gl ≠ gm ∧ gi ≠ gm := by
  obtain ⟨cL, hL, sL, eL⟩ := h.rowL
  obtain ⟨cI, hI, sI, eI⟩ := h.rowI
  obtain ⟨cM, hM, sM, eM⟩ := h.rowM
  exact ⟨h.blk.ne hL (by decide), h.blk.ne hI (by decide), h.blk.ne hM (by decide), hL.ne hI (by decide), hL.ne hM (by decide), h.apart⟩
theorem RefWords.putL (h : RefWords w F b gl gi gm S) (hk : S[k]? = some x) {l : List Int} {v : Value} (hv : RdI w F v l) (hl : l.length ≤ 4096) :
    RefWords (w.setCell ⟨gl, k, none⟩ v) F b gl gi gm (S.set k ⟨x.is, x.long, l⟩) ∧ Touch (fun q => q = gl) w (w.setCell ⟨gl, k, none⟩ v) := by
  have t : Touch (fun q => q = gl) w (w.setCell ⟨gl, k, none⟩ v) := (Touch.refl (fun q => q = gl) w).setCell (p := ⟨gl, k, none⟩) (fun _ => rfl) _
  obtain ⟨n1, n2, n3, n4, n5, n6⟩ := h.nes
  obtain ⟨cL, hL, sL, eL⟩ := h.rowL
  obtain ⟨cI, hI, sI, eI⟩ := h.rowI
  obtain ⟨cM, hM, sM, eM⟩ := h.rowM
  have hkl := (List.getElem?_eq_some_iff.1 hk).1
  refine ⟨⟨by rw [List.length_set]; exact h.blk.touch t n1, ⟨_, hL.put _ _, by simp [sL], fun j y hy => ?_⟩, ⟨cI, hI.touch t (fun e => n4 e.symm), by rw [List.length_set]; exact sI, fun j y hy => ?_⟩, ⟨cM, hM.touch t (fun e => n5 e.symm), by rw [List.length_set]; exact sM, fun j y hy => ?_⟩, n6, fun q hq => Nat.lt_of_lt_of_le (h.lt q hq) t.size, h.far, fun y hy => ?_, by rw [List.length_set]; exact h.size⟩, t⟩
  · rcases set_at hkl hy with ⟨rfl, rfl⟩ | ⟨e, hy⟩
    · exact ⟨v, set_same _ _ _ (by omega), hv.touch t (fun q hq => (h.far q hq).1)⟩
    · obtain ⟨u, h1, h2⟩ := eL j y hy
      exact ⟨u, (set_other _ _ _ _ (fun e' => e e'.symm)).trans h1, h2.touch t (fun q hq => (h.far q hq).1)⟩
  · rcases set_at hkl hy with ⟨rfl, rfl⟩ | ⟨e, hy⟩
    · exact eI j x hk
    · exact eI j y hy
  · rcases set_at hkl hy with ⟨rfl, rfl⟩ | ⟨e, hy⟩
    · exact eM j x hk
    · exact eM j y hy
  · rcases List.mem_or_eq_of_mem_set hy with hy | rfl
    · exact h.lens y hy
    · exact hl
theorem RefWords.putI (h : RefWords w F b gl gi gm S) (hk : S[k]? = some x) (i : Bool) :
    RefWords (w.setCell ⟨gi, k, none⟩ (.bool i)) F b gl gi gm (S.set k ⟨i, x.long, x.l⟩) ∧ Touch (fun q => q = gi) w (w.setCell ⟨gi, k, none⟩ (.bool i)) := by
  have t : Touch (fun q => q = gi) w (w.setCell ⟨gi, k, none⟩ (.bool i)) := (Touch.refl (fun q => q = gi) w).setCell (p := ⟨gi, k, none⟩) (fun _ => rfl) _
  obtain ⟨n1, n2, n3, n4, n5, n6⟩ := h.nes
  obtain ⟨cL, hL, sL, eL⟩ := h.rowL
  obtain ⟨cI, hI, sI, eI⟩ := h.rowI
  obtain ⟨cM, hM, sM, eM⟩ := h.rowM
  have hkl := (List.getElem?_eq_some_iff.1 hk).1
  refine ⟨⟨by rw [List.length_set]; exact h.blk.touch t n2, ⟨cL, hL.touch t n4, by rw [List.length_set]; exact sL, fun j y hy => ?_⟩, ⟨_, hI.put _ _, by simp [sI], fun j y hy => ?_⟩, ⟨cM, hM.touch t (fun e => n6 e.symm), by rw [List.length_set]; exact sM, fun j y hy => ?_⟩, n6, fun q hq => Nat.lt_of_lt_of_le (h.lt q hq) t.size, h.far, fun y hy => ?_, by rw [List.length_set]; exact h.size⟩, t⟩
  · rcases set_at hkl hy with ⟨rfl, rfl⟩ | ⟨e, hy⟩
    · obtain ⟨u, h1, h2⟩ := eL j x hk
      exact ⟨u, h1, h2.touch t (fun q hq => (h.far q hq).2.1)⟩
    · obtain ⟨u, h1, h2⟩ := eL j y hy
      exact ⟨u, h1, h2.touch t (fun q hq => (h.far q hq).2.1)⟩
  · rcases set_at hkl hy with ⟨rfl, rfl⟩ | ⟨e, hy⟩
    · exact set_same _ _ _ (by omega)
    · exact (set_other _ _ _ _ (fun e' => e e'.symm)).trans (eI j y hy)
  · rcases set_at hkl hy with ⟨rfl, rfl⟩ | ⟨e, hy⟩
    · exact eM j x hk
    · exact eM j y hy
  · rcases List.mem_or_eq_of_mem_set hy with hy | rfl
    · exact h.lens y hy
    · exact h.lens x (List.mem_of_getElem? hk)
theorem RefWords.putM (h : RefWords w F b gl gi gm S) (hk : S[k]? = some x) (i : Bool) :
    RefWords (w.setCell ⟨gm, k, none⟩ (.bool i)) F b gl gi gm (S.set k ⟨x.is, i, x.l⟩) ∧ Touch (fun q => q = gm) w (w.setCell ⟨gm, k, none⟩ (.bool i)) := by
  have t : Touch (fun q => q = gm) w (w.setCell ⟨gm, k, none⟩ (.bool i)) := (Touch.refl (fun q => q = gm) w).setCell (p := ⟨gm, k, none⟩) (fun _ => rfl) _
  obtain ⟨n1, n2, n3, n4, n5, n6⟩ := h.nes
  obtain ⟨cL, hL, sL, eL⟩ := h.rowL
  obtain ⟨cI, hI, sI, eI⟩ := h.rowI
  obtain ⟨cM, hM, sM, eM⟩ := h.rowM
  have hkl := (List.getElem?_eq_some_iff.1 hk).1
  refine ⟨⟨by rw [List.length_set]; exact h.blk.touch t n3, ⟨cL, hL.touch t n5, by rw [List.length_set]; exact sL, fun j y hy => ?_⟩, ⟨cI, hI.touch t n6, by rw [List.length_set]; exact sI, fun j y hy => ?_⟩, ⟨_, hM.put _ _, by simp [sM], fun j y hy => ?_⟩, n6, fun q hq => Nat.lt_of_lt_of_le (h.lt q hq) t.size, h.far, fun y hy => ?_, by rw [List.length_set]; exact h.size⟩, t⟩
  · rcases set_at hkl hy with ⟨rfl, rfl⟩ | ⟨e, hy⟩
    · obtain ⟨u, h1, h2⟩ := eL j x hk
      exact ⟨u, h1, h2.touch t (fun q hq => (h.far q hq).2.2)⟩
    · obtain ⟨u, h1, h2⟩ := eL j y hy
      exact ⟨u, h1, h2.touch t (fun q hq => (h.far q hq).2.2)⟩
  · rcases set_at hkl hy with ⟨rfl, rfl⟩ | ⟨e, hy⟩
    · exact eI j x hk
    · exact eI j y hy
  · rcases set_at hkl hy with ⟨rfl, rfl⟩ | ⟨e, hy⟩
    · exact set_same _ _ _ (by omega)
    · exact (set_other _ _ _ _ (fun e' => e e'.symm)).trans (eM j y hy)
  · rcases List.mem_or_eq_of_mem_set hy with hy | rfl
    · exact h.lens y hy
    · exact h.lens x (List.mem_of_getElem? hk)
end
/-- an entry is turned whole -/
theorem RefWords.put {w : World} {F : Nat → Prop} {b gl gi gm : Nat} {S : List FoundD} {k : Nat} {x : FoundD} (h : RefWords w F b gl gi gm S) (hk : S[k]? = some x) (y : FoundD) {v : Value} (hv : RdI w F v y.l) (hl : y.l.length ≤ 4096) :
    RefWords (((w.setCell ⟨gl, k, none⟩ v).setCell ⟨gi, k, none⟩ (.bool y.is)).setCell ⟨gm, k, none⟩ (.bool y.long)) F b gl gi gm (S.set k y) ∧ Touch (fun q => q = gl ∨ q = gi ∨ q = gm) w (((w.setCell ⟨gl, k, none⟩ v).setCell ⟨gi, k, none⟩ (.bool y.is)).setCell ⟨gm, k, none⟩ (.bool y.long)) := by
  have hkl := (List.getElem?_eq_some_iff.1 hk).1
  obtain ⟨h1, -⟩ := h.putL hk hv hl
  obtain ⟨h2, -⟩ := h1.putI (k := k) (x := ⟨x.is, x.long, y.l⟩) (by rw [List.getElem?_set_self hkl]) y.is
  obtain ⟨h3, -⟩ := h2.putM (k := k) (x := ⟨y.is, x.long, y.l⟩) (by rw [List.getElem?_set_self (by rw [List.length_set]; exact hkl)]) y.long
  rw [List.set_set, List.set_set] at h3
  exact ⟨h3, (((Touch.refl _ w).setCell (p := ⟨gl, k, none⟩) (fun _ => .inl rfl) _).setCell (p := ⟨gi, k, none⟩) (fun _ => .inr (.inl rfl)) _).setCell (p := ⟨gm, k, none⟩) (fun _ => .inr (.inr rfl)) _⟩
theorem RefWords.put2 {w : World} {F : Nat → Prop} {b gl gi gm : Nat} {S : List FoundD} {k : Nat} {x : FoundD} (h : RefWords w F b gl gi gm S) (hk : S[k]? = some x) {l : List Int} (i : Bool) {v : Value} (hv : RdI w F v l) (hl : l.length ≤ 4096) :
    RefWords ((w.setCell ⟨gl, k, none⟩ v).setCell ⟨gi, k, none⟩ (.bool i)) F b gl gi gm (S.set k ⟨i, x.long, l⟩) ∧ Touch (fun q => q = gl ∨ q = gi ∨ q = gm) w ((w.setCell ⟨gl, k, none⟩ v).setCell ⟨gi, k, none⟩ (.bool i)) := by
  have hkl := (List.getElem?_eq_some_iff.1 hk).1
  obtain ⟨h1, -⟩ := h.putL hk hv hl
  obtain ⟨h2, -⟩ := h1.putI (k := k) (x := ⟨x.is, x.long, l⟩) (by rw [List.getElem?_set_self hkl]) i
  rw [List.set_set] at h2
  exact ⟨h2, ((Touch.refl _ w).setCell (p := ⟨gl, k, none⟩) (fun _ => .inl rfl) _).setCell (p := ⟨gi, k, none⟩) (fun _ => .inr (.inl rfl)) _⟩
end Go.Proofs.Ytejjaabkbkkjlaa
