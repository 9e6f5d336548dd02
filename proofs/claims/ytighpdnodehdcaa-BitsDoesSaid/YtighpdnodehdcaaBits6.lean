/- Contracts of package bits, part 6: Same, Twin, and what nil receivers answer. -/
import Derived.Test.YtighpdnodehdcaaBits5
namespace Go.Proofs.Ytighpdnodehdcaa
set_option linter.unusedVariables false
open Go.RowKit

theorem below_eq {f g : Nat → Bool} {n m : Nat} : ((below f n).map (fun n : Nat => (n : Int)) = (below g m).map (fun n : Nat => (n : Int))) ↔ below f n = below g m := by
  constructor
  · intro h
    exact (List.map_inj_right (f := fun n : Nat => (n : Int)) (fun a b (h : (a : Int) = (b : Int)) => by omega)).1 h
  · intro h; rw [h]

theorem set_same {w : World} {b n b2 m : Nat} {f g : Nat → Bool} {S S2 : Nat → Prop} (h : IsSet w b S n f) (h2 : IsSet w b2 S2 m g) :
    Calls Try.prog 23 #[.pointer (some ⟨b, 0, none⟩), .pointer (some ⟨b2, 0, none⟩)] w fun e w' => e = .returned (.bool (decide (below f n = below g m))) ∧ Below w.heap.size w w' := by
  have H := hide h
  have H2 := hide h2
  clear h h2
  go_enter Try.func23, Try.ntmps23
  go_wp2_with fail
  refine (set_list H.out).mono ?_
  rintro e w1 ⟨A1, c1, rfl, hown1, hb1⟩
  go_wp2_with fail
  refine (set_list (H2.out.touch (Touch.of_size hb1 (fun _ => False)) (fun _ _ hf => hf))).mono ?_
  rintro e w2 ⟨A2, c2, rfl, hown2, hb2⟩
  rw [map_I64] at hown1 hown2
  have r1 := (Rd.of_own hown1).below hb2 (fun k hk => (hown1.lt k hk).2)
  have r2 := Rd.of_own hown2
  have hd : decide ((below f n).map (fun n : Nat => (n : Int)) = (below g m).map (fun n : Nat => (n : Int))) = decide (below f n = below g m) := decide_eq_decide.2 below_eq
  have heq := equal_ints r1 r2
  rw [hd] at heq
  have HE := hide heq
  clear heq hd r1 r2 hown1 hown2
  go_wp2_with fail
  refine HE.out.mono ?_
  rintro e w3 ⟨rfl, hb3⟩
  go_wp2_with fail
  go_ret
  exact ⟨rfl, hb1.trans ((hb2.mono hb1.size).trans (hb3.mono (Nat.le_trans hb1.size hb2.size)))⟩

theorem set_twin_nil (w : World) : Calls Try.prog 21 #[.pointer none] w fun e w' => e = .returned (.pointer none) ∧ w = w' := by
  go_enter Try.func21, Try.ntmps21
  go_wp2
  go_ret
  exact ⟨rfl, rfl⟩

/-- a new set -/
def NewPost' (w : World) (n : Nat) (f : Nat → Bool) (e : Ending) (w' : World) : Prop := ∃ b, e = .returned (.pointer (some ⟨b, 0, none⟩)) ∧ IsSet w' b (New (fun _ => False) w w') n f ∧ Below w.heap.size w w'

set_option maxRecDepth 100000 in
theorem set_twin {w : World} {b n : Nat} {f : Nat → Bool} {S : Nat → Prop} (h : IsSet w b S n f) :
    Calls Try.prog 21 #[.pointer (some ⟨b, 0, none⟩)] w (NewPost' w n f) := by
  obtain ⟨⟨r, ws, hi, hr, hf⟩, hb, hlt⟩ := h
  obtain ⟨c, h1, hc, hcm⟩ := hi.blk
  have c0 := h1.cell 0
  have c1 := h1.cell 1
  simp at c0 c1
  unfold maxLen at hcm
  have hroom := hi.room
  have hlen := hi.len
  have hmk := make_rows (P := Try.prog) Try.elem64 rfl ws.length (by omega) (by omega) .i64 .i64
  have hwlt := hi.words.lt
  have hblt := h1.lt
  obtain ⟨rep, hrep⟩ : ∃ r, r = List.replicate ws.length (Value.int .u64 0) := ⟨_, rfl⟩
  rw [← hrep] at hmk
  have hrl : rep.length = ws.length := by rw [hrep]; simp
  have hd0 := cell_a c0
  have hd1 := cell_a c1
  have HR := hide hrl
  have HI := hide hi
  have HF := hide hf
  have H1 := hide h1
  clear hrl hrep hi hf h1 hlen
  go_enter Try.func21, Try.ntmps21
  go_wp2_with (refine wpList_copy_splice rfl (.tmp 12) (.tmp 16) 68 68 rfl 72 Try.underlying68 (by kernel_rfl) (some ⟨w.heap.size, 0, none⟩) (some ⟨r, 0, none⟩) ws.length ws.length ws.length c rfl rfl w.heap.size 0 rep 72 (Blk.new w 72 rep.toArray) (ws.map U64) ?len (fun _ => ⟨rfl, _, rfl, ?cells⟩) ?fit ?ones w.heap.size w ((Below.refl _ _).alloc (Nat.le_refl _) _) (Nat.le_refl _) ?_)
  case len => simp
  case fit => rw [HR.out]; simp
  case ones => intro u hu; obtain ⟨x, _, rfl⟩ := List.mem_map.1 hu; rfl
  case cells =>
    intro j v hj
    rw [add_none, Nat.zero_add]
    have := (HI.out.words.alloc (.cells rep.toArray 72)).cell j
    rw [this]; simpa using hj
  intro w2 hg2 hb2
  have e0 := (hb2.cell (p := ⟨b, 0, none⟩) hblt).trans c0
  have e1 := (hb2.cell (p := ⟨b, 1, none⟩) hblt).trans c1
  clear hd0 hd1 hmk
  go_wp2_with fail
  go_ret
  have hsp : splice rep 0 (ws.map U64) = ws.map U64 := by
    unfold splice
    have : rep.drop (0 + (ws.map U64).length) = [] := List.drop_eq_nil_of_le (by rw [HR.out]; simp)
    rw [this]; simp
  have hw : Blk w2 w.heap.size 72 (ws.map U64).toArray := by have := hg2.out; rw [hsp] at this; exact this
  have hsz := hw.lt
  have hw' := hw.alloc (.cells #[.int .i64 n, .slice (some ⟨w.heap.size, 0, none⟩) ws.length ws.length] 70)
  have hs' := Blk.new w2 70 #[.int .i64 n, .slice (some ⟨w.heap.size, 0, none⟩) ws.length ws.length]
  refine ⟨w2.heap.size, rfl, ⟨⟨w.heap.size, ws, ⟨⟨ws.length, hs', Nat.le_refl _, by unfold maxLen; omega⟩, hw', HI.out.len, hroom, HI.out.high⟩, .inr ⟨Nat.le_refl _, by simp; omega⟩, HF.out⟩, .inr ⟨by omega, by simp⟩, fun k hk => by rcases hk with hk | hk; exact hk.elim; exact hk.2⟩, hb2.alloc (by omega) _⟩
end Go.Proofs.Ytighpdnodehdcaa
