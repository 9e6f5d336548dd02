/- The table of words: made, turned. And the pass over rules. -/
import Derived.Test.YtejjaabkbkkjlaaLeast3
import Derived.Test.YtejjaabkbkkjlaaG9
import Derived.Laws.MakeOwn
namespace Go.Proofs.Ytejjaabkbkkjlaa
set_option linter.unusedVariables false
open Go.RowKit

theorem Try.infoFound : (Try.prog.info? 83).map (fun i => (i.zero, i.size, i.bytes)) = some (some (.agg #[.bool false, .bool false, .slice none 0 0]), 3, 32) := by kernel_rfl
theorem made_at (z : Array Value) (n i : Nat) (hz : 0 < z.size) (hi : i < n) : (madeCells z n)[i]? = z[i % z.size]? := by
  unfold madeCells
  rw [Array.getElem?_map, Array.getElem?_range]
  rw [if_pos hi]
  have : i % z.size < z.size := Nat.mod_lt _ hz
  simp [this]
/-- make([]found, n): the cells of n entries that are not there -/
def Empties (Z : Array Value) (n : Nat) : Prop := Z.size = n * 3 ∧ ∀ i, i < n → Z[i * 3]? = some (.bool false) ∧ Z[i * 3 + 1]? = some (.bool false) ∧ Z[i * 3 + 2]? = some (.slice none 0 0)
theorem make_found (n : Nat) (hn : n ≤ 65536) : ∃ Z : Array Value, Empties Z n ∧ ∀ w : World, (Instr.makeSlice 79 (.int .i64 (n : Int)) (.int .i64 (n : Int))).run Try.prog w = .ok (.slice (some ⟨w.heap.size, 0, none⟩) n n) (w.alloc (.cells Z 83)) := by
  obtain ⟨i, hi, hz, hsize, hby⟩ := info_parts Try.infoFound
  refine ⟨madeCells #[.bool false, .bool false, .slice none 0 0] (n * 3), ⟨size_madeCells _ _, fun k hk => ?_⟩, fun w => ?_⟩
  · refine ⟨?_, ?_, ?_⟩
    · rw [made_at _ _ _ (by decide) (by omega)]
      have : k * 3 % 3 = 0 := by omega
      simp [this]
    · rw [made_at _ _ _ (by decide) (by omega)]
      have : (k * 3 + 1) % 3 = 1 := by omega
      simp [this]
    · rw [made_at _ _ _ (by decide) (by omega)]
      have : (k * 3 + 2) % 3 = 2 := by omega
      simp [this]
  · have hr := run_make (P := Try.prog) w 79 83 i _ Try.underlying79 hi hz .i64 .i64 (n : Int) n (by omega) (by omega) (by rw [hby]; omega) (by omega)
    simp only [Int.toNat_natCast] at hr
    rw [hr, hsize]
    rfl

theorem IsWords.mono {w : World} {F F' : Nat → Prop} {b g : Nat} {S : List FoundD} (h : IsWords w F b g S) (hF : ∀ k, F k → F' k) (hl : ∀ k, F' k → k < w.heap.size) (hg : ∀ k, F' k → k ≠ g) : IsWords w F' b g S := by
  obtain ⟨cells, hk, hs, hc⟩ := h.row
  exact ⟨h.blk, ⟨cells, hk, hs, fun i x hx => by
    obtain ⟨h1, h2, v, h3, h4⟩ := hc i x hx
    exact ⟨h1, h2, v, h3, h4.mono hF⟩⟩, hl, hg, h.lens, h.size⟩
theorem IsWords.made {w : World} {F : Nat → Prop} {b g n : Nat} {Z : Array Value} (hb : Blk w b 81 #[.slice (some ⟨g, 0, none⟩) n n]) (hg : Blk w g 83 Z) (hZ : Empties Z n) (hn : n ≤ 65536) (hF : ∀ k, F k → k < w.heap.size ∧ k ≠ g) : IsWords w F b g (List.replicate n noFound) := by
  refine ⟨by simpa using hb, ⟨Z, hg, by simpa using hZ.1, fun i x hx => ?_⟩, fun k hk => (hF k hk).1, fun k hk => (hF k hk).2, fun x hx => by rw [(List.mem_replicate.1 hx).2]; simp [noFound], by simpa using hn⟩
  have hi := (List.getElem?_eq_some_iff.1 hx).1
  have hxe := List.mem_of_getElem? hx
  rw [(List.mem_replicate.1 hxe).2]
  rw [List.length_replicate] at hi
  obtain ⟨h1, h2, h3⟩ := hZ.2 i hi
  exact ⟨h1, h2, _, h3, Rd.nil _ _ _⟩

theorem set_other (cells : Array Value) (i j : Nat) (v : Value) (h : j ≠ i) : (cells.setIfInBounds j v)[i]? = cells[i]? := Array.getElem?_setIfInBounds_ne h
theorem set_same (cells : Array Value) (i : Nat) (v : Value) (h : i < cells.size) : (cells.setIfInBounds i v)[i]? = some v := by
  rw [Array.getElem?_setIfInBounds_self_of_lt h]
/-- an entry is turned -/
theorem IsWords.put {w : World} {F : Nat → Prop} {b g : Nat} {S : List FoundD} (h : IsWords w F b g S) {k : Nat} (hk : k < S.length) (x : FoundD) {v : Value} (hv : RdI w F v x.l) (hl : x.l.length ≤ 4096) :
    IsWords (((w.setCell ⟨g, k * 3, none⟩ (.bool x.is)).setCell ⟨g, k * 3 + 1, none⟩ (.bool x.long)).setCell ⟨g, k * 3 + 2, none⟩ v) F b g (S.set k x) ∧
      Touch (fun q => q = g) w (((w.setCell ⟨g, k * 3, none⟩ (.bool x.is)).setCell ⟨g, k * 3 + 1, none⟩ (.bool x.long)).setCell ⟨g, k * 3 + 2, none⟩ v) := by
  have t : Touch (fun q => q = g) w (((w.setCell ⟨g, k * 3, none⟩ (.bool x.is)).setCell ⟨g, k * 3 + 1, none⟩ (.bool x.long)).setCell ⟨g, k * 3 + 2, none⟩ v) :=
    (((Touch.refl (fun q => q = g) w).setCell (p := ⟨g, k * 3, none⟩) (fun _ => rfl) _).setCell (p := ⟨g, k * 3 + 1, none⟩) (fun _ => rfl) _).setCell (p := ⟨g, k * 3 + 2, none⟩) (fun _ => rfl) _
  obtain ⟨cells, hg, hs, hc⟩ := h.row
  have hbg : b ≠ g := h.blk.ne hg (by decide)
  refine ⟨⟨by rw [List.length_set]; exact h.blk.touch t hbg, ⟨_, ((hg.put _ _).put _ _).put _ _, by simp [hs], fun i y hy => ?_⟩, fun q hq => Nat.lt_of_lt_of_le (h.lt q hq) t.size, h.far, fun y hy => ?_, by rw [List.length_set]; exact h.size⟩, t⟩
  · have hi := (List.getElem?_eq_some_iff.1 hy).1
    rw [List.length_set] at hi
    by_cases e : i = k
    · subst e
      rw [List.getElem?_set_self hk] at hy
      injection hy with hy
      subst hy
      have hb3 : i * 3 + 2 < cells.size := by omega
      refine ⟨?_, ?_, v, ?_, hv.touch t h.far⟩
      · rw [set_other _ _ _ _ (by omega), set_other _ _ _ _ (by omega), set_same _ _ _ (by omega)]
      · rw [set_other _ _ _ _ (by omega), set_same _ _ _ (by simp; omega)]
      · rw [set_same _ _ _ (by simp; omega)]
    · rw [List.getElem?_set_ne (fun e' => e e'.symm)] at hy
      obtain ⟨h1, h2, u, h3, h4⟩ := hc i y hy
      refine ⟨?_, ?_, u, ?_, h4.touch t h.far⟩
      · rw [set_other _ _ _ _ (by omega), set_other _ _ _ _ (by omega), set_other _ _ _ _ (by omega), h1]
      · rw [set_other _ _ _ _ (by omega), set_other _ _ _ _ (by omega), set_other _ _ _ _ (by omega), h2]
      · rw [set_other _ _ _ _ (by omega), set_other _ _ _ _ (by omega), set_other _ _ _ _ (by omega), h3]
  · rcases List.mem_or_eq_of_mem_set hy with hy | rfl
    · exact h.lens y hy
    · exact hl
/-- an entry's first cell is turned -/
theorem IsWords.putIs {w : World} {F : Nat → Prop} {b g : Nat} {S : List FoundD} (h : IsWords w F b g S) {k : Nat} {x : FoundD} (hk : S[k]? = some x) (i : Bool) :
    IsWords (w.setCell ⟨g, k * 3, none⟩ (.bool i)) F b g (S.set k ⟨i, x.long, x.l⟩) ∧ Touch (fun q => q = g) w (w.setCell ⟨g, k * 3, none⟩ (.bool i)) := by
  have t : Touch (fun q => q = g) w (w.setCell ⟨g, k * 3, none⟩ (.bool i)) := (Touch.refl (fun q => q = g) w).setCell (p := ⟨g, k * 3, none⟩) (fun _ => rfl) _
  obtain ⟨cells, hg, hs, hc⟩ := h.row
  have hbg : b ≠ g := h.blk.ne hg (by decide)
  have hkl := (List.getElem?_eq_some_iff.1 hk).1
  refine ⟨⟨by rw [List.length_set]; exact h.blk.touch t hbg, ⟨_, hg.put _ _, by simp [hs], fun j y hy => ?_⟩, fun q hq => Nat.lt_of_lt_of_le (h.lt q hq) t.size, h.far, fun y hy => ?_, by rw [List.length_set]; exact h.size⟩, t⟩
  · by_cases e : j = k
    · subst e
      rw [List.getElem?_set_self hkl] at hy
      injection hy with hy
      subst hy
      obtain ⟨h1, h2, u, h3, h4⟩ := hc j x hk
      refine ⟨set_same _ _ _ (by omega), ?_, u, ?_, h4.touch t h.far⟩
      · rw [set_other _ _ _ _ (by omega), h2]
      · rw [set_other _ _ _ _ (by omega), h3]
    · rw [List.getElem?_set_ne (fun e' => e e'.symm)] at hy
      obtain ⟨h1, h2, u, h3, h4⟩ := hc j y hy
      refine ⟨?_, ?_, u, ?_, h4.touch t h.far⟩
      · rw [set_other _ _ _ _ (by omega), h1]
      · rw [set_other _ _ _ _ (by omega), h2]
      · rw [set_other _ _ _ _ (by omega), h3]
  · rcases List.mem_or_eq_of_mem_set hy with hy | rfl
    · exact h.lens y hy
    · exact h.lens x (List.mem_of_getElem? hk)

/-- the table after so many terminals -/
def startTo (T N k : Nat) : List FoundD := ⟨true, false, []⟩ :: ((List.range k).map (fun (i : Nat) => (⟨true, false, [(i : Int) + 1]⟩ : FoundD)) ++ List.replicate (T + N - k) noFound)
theorem startTo_len {T N k : Nat} (h : k ≤ T) : (startTo T N k).length = T + N + 1 := by unfold startTo; simp; omega
theorem startTo_end (T N : Nat) : startTo T N T = startW T N := by unfold startTo startW; rw [show T + N - T = N by omega]
theorem startTo_zero (T N : Nat) : startTo T N 0 = (List.replicate (T + N + 1) noFound).set 0 ⟨true, noFound.long, noFound.l⟩ := by
  unfold startTo
  rw [List.replicate_succ]
  rfl
theorem startTo_succ {T N k : Nat} (h : k < T) : (startTo T N k).set (k + 1) ⟨true, false, [(k : Int) + 1]⟩ = startTo T N (k + 1) := by
  unfold startTo
  rw [List.set_cons_succ]
  congr 1
  rw [List.range_succ, List.map_append, List.append_assoc]
  rw [List.set_append_right _ _ (by simp)]
  congr 1
  rw [show T + N - k = (T + N - (k + 1)) + 1 by omega, List.replicate_succ]
  simp

/-! ### a pass -/
def passK (rs : List (Int × List Int)) (S : List FoundD) (k : Nat) : List FoundD × Bool := passTo (rs.take k) S
theorem passK_zero (rs : List (Int × List Int)) (S : List FoundD) : passK rs S 0 = (S, false) := rfl
theorem passK_succ {rs : List (Int × List Int)} {S : List FoundD} {k : Nat} {r : Int × List Int} (h : rs[k]? = some r) : passK rs S (k + 1) = ((stepR (passK rs S k).1 r).1, (passK rs S k).2 || (stepR (passK rs S k).1 r).2) := by
  unfold passK passTo
  rw [List.take_add_one, h, List.foldl_append]
  rfl
theorem passK_end (rs : List (Int × List Int)) (S : List FoundD) : passK rs S rs.length = passTo rs S := by unfold passK; rw [List.take_length]
theorem passK_good {B T n : Nat} (hB : B = T + 1) {rs : List (Int × List Int)} {S : List FoundD} (hS : GoodS T S) (hl : S.length = n) (hr : ∀ r ∈ rs, 0 ≤ r.1 ∧ r.1 < n) : ∀ k : Nat, k ≤ rs.length → GoodS T (passK rs S k).1 ∧ (passK rs S k).1.length = n ∧ (((passK rs S k).2 = false ∧ (passK rs S k).1 = S) ∨ ((passK rs S k).2 = true ∧ totalW B (passK rs S k).1 < totalW B S))
  | 0, _ => ⟨hS, hl, .inl ⟨rfl, rfl⟩⟩
  | k + 1, hk => by
    obtain ⟨h1, h2, h3⟩ := passK_good hB hS hl hr k (by omega)
    have hx : rs[k]? = some rs[k] := List.getElem?_eq_getElem (by omega)
    have hrk := hr rs[k] (List.getElem_mem _)
    rw [passK_succ hx]
    obtain ⟨g1, g2⟩ := stepR_good h1 rs[k]
    refine ⟨g1, by rw [g2]; exact h2, ?_⟩
    rcases stepR_rank hB h1 hrk.1 (by rw [h2]; exact hrk.2) with ⟨e1, e2⟩ | ⟨e1, e2⟩
    · rw [e1, e2, Bool.or_false]; exact h3
    · rw [e1, Bool.or_true]
      rcases h3 with ⟨_, h4⟩ | ⟨_, h4⟩
      · exact .inr ⟨rfl, by rw [h4] at e2; simpa [h4] using e2⟩
      · exact .inr ⟨rfl, by show totalW B (stepR (passK rs S k).1 rs[k]).1 < totalW B S; omega⟩
end Go.Proofs.Ytejjaabkbkkjlaa
