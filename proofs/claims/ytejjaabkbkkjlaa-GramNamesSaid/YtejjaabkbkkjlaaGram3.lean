/- Contracts: the reference's names, Find; Name and Of of both. -/
import Derived.Test.YtejjaabkbkkjlaaGram2
namespace Go.Proofs.Ytejjaabkbkkjlaa
set_option linter.unusedVariables false
open Go.RowKit

def OwnPost (w : World) (e : TypeId) (xs : List Value) (n : Nat) (en : Ending) (w' : World) : Prop :=
  ∃ A c, en = .returned (.slice A n c) ∧ w'.ownsRow w.heap.size e 1 (.slice A n c) n xs ∧ Below w.heap.size w w'

theorem rds_ones {xs : List ByteArray} : ∀ u ∈ xs.map Value.string, u.oneCell' = true := by
  intro u hu; obtain ⟨x, _, rfl⟩ := List.mem_map.1 hu; rfl

set_option maxHeartbeats 1000000 in
theorem ref_names {w : World} {F : Nat → Prop} {vt vn vr : Value} {G : GramD} (h : IsGram w F vt vn vr G) (st : Int) (hb : G.terms.length + G.nons.length ≤ 65536) :
    Calls Try.prog 87 #[GV vt vn vr st] w (OwnPost w 9 ((G.terms ++ G.nons).map Value.string) (topOf G)) := by
  have hs := h.small
  have hlt := h.lt
  have ht := h.terms
  have hn := h.nons
  obtain ⟨A1, c1, A2, c2, A3, c3, rfl, rfl, rfl, _⟩ := h.slices
  obtain ⟨s1, s2, s3⟩ := hs
  have H := hide h
  have HT := hide ht
  have HN := hide hn
  have HL := hide hlt
  obtain ⟨T, hT⟩ : ∃ T, T = G.terms.length := ⟨_, rfl⟩
  obtain ⟨N, hN⟩ : ∃ N, N = G.nons.length := ⟨_, rfl⟩
  clear h ht hn hlt
  rw [← hT] at s1 HT ⊢
  rw [← hN] at s2 HN ⊢
  rw [← hT, ← hN] at hb
  have h1 := hide hT
  have h2 := hide hN
  clear hT hN H
  obtain ⟨box, hbox⟩ : ∃ box : Obj, box = .cells #[.slice A1 T c1, .slice A2 N c2, .slice A3 G.rules.length c3, .int .i64 st] 25 := ⟨_, rfl⟩
  have b1 : Below w.heap.size w (((w.alloc box).alloc (.cells #[] 9)).drew) := ((((Below.refl _ w).alloc (Nat.le_refl _) _)).alloc (by simp) _).drew
  have o1 : World.ownsRow (((w.alloc box).alloc (.cells #[] 9)).drew) w.heap.size 9 1 (.slice (some ⟨w.heap.size + 1, 0, none⟩) 0 0) 0 [] := by
    have := World.ownsRow_made (base := w.heap.size) (e := 9) (size := 1) (w.alloc box) #[] 0 (by simp) (by decide) rfl
    have h2 : World.ownsRow ((w.alloc box).alloc (.cells #[] 9)) w.heap.size 9 1 (.slice (some ⟨w.heap.size + 1, 0, none⟩) 0 0) 0 [] := by simpa using this
    exact h2
  have r1 := HT.out.below b1 HL.out
  have ln1 : (G.terms.map Value.string).length = T * 1 := by simpa using h1.out.symm
  have ln2 : (G.nons.map Value.string).length = N * 1 := by simpa using h2.out.symm
  have m1 : 0 + T ≤ maxLen := by unfold maxLen; omega
  have m2 : (0 + T) * 16 ≤ 140737488355328 := by omega
  have m3 : T + N ≤ maxLen := by unfold maxLen; omega
  have m5 : (T + N) * 16 ≤ 140737488355328 := by omega
  have m3' : (0 + T) + N ≤ maxLen := by unfold maxLen; omega
  have m5' : ((0 + T) + N) * 16 ≤ 140737488355328 := by omega
  have after : ∀ (A : Option Addr) (c : Nat) (w4 : World), w4.ownsRow w.heap.size 9 1 (.slice A (0 + T) c) (0 + T) ([] ++ G.terms.map Value.string) → (((w.alloc box).alloc (.cells #[] 9)).drew).grownBy w4 (some (w.heap.size + 1)) →
      w4.ownsRow w.heap.size 9 1 (.slice A T c) T (G.terms.map Value.string) ∧ Below w.heap.size w w4 ∧ Rd w4 F (.slice A2 N c2) 1 (G.nons.map Value.string) ∧ w4.cell? ⟨w.heap.size, 0, none⟩ = some (.slice A1 T c1) ∧ w4.cell? ⟨w.heap.size, 1, none⟩ = some (.slice A2 N c2) ∧ Blk w4 w.heap.size 25 #[.slice A1 T c1, .slice A2 N c2, .slice A3 G.rules.length c3, .int .i64 st] := by
    intro A c w4 ho hg
    have b4 := b1.grown hg (by simp; omega) (fun k hk => by injection hk with hk; omega)
    have hbl : Blk w4 w.heap.size 25 #[.slice A1 T c1, .slice A2 N c2, .slice A3 G.rules.length c3, .int .i64 st] := by
      have h0 : Blk (((w.alloc box).alloc (.cells #[] 9)).drew) w.heap.size 25 #[.slice A1 T c1, .slice A2 N c2, .slice A3 G.rules.length c3, .int .i64 st] := by
        rw [hbox]; exact ((Blk.new w _ _).alloc _).drew
      exact h0.grown hg (by simp)
    exact ⟨by simpa using ho, b4, HN.out.below b4 HL.out, by simpa using hbl.cell 0, by simpa using hbl.cell 1, hbl⟩
  have aft2 : ∀ (w4 w5 : World) (v : Value) (n : Nat) (xs : List Value), Blk w4 w.heap.size 25 #[.slice A1 T c1, .slice A2 N c2, .slice A3 G.rules.length c3, .int .i64 st] → w4.ownsRow w.heap.size 9 1 v n xs → w4.grownBy w5 v.ownBlock → w5.cell? ⟨w.heap.size, 0, none⟩ = some (.slice A1 T c1) ∧ w5.cell? ⟨w.heap.size, 1, none⟩ = some (.slice A2 N c2) := by
    intro w4 w5 v n xs hb ho hg
    have h5 := hb.grown hg (fun e => hb.ne_own ho (by decide) e.symm)
    exact ⟨by simpa using h5.cell 0, by simpa using h5.cell 1⟩
  have AF2 := hide aft2
  clear aft2
  have AFT := hide after
  have O1 := hide o1
  have R1 := hide r1
  have B1 := hide b1
  clear after o1 r1 b1
  rw [hbox] at AFT O1 R1 B1
  clear hbox
  go_enter Try.func87, Try.ntmps87
  go_wp2_with fail
  go_region_held3 (fun w' => w'.cell? ⟨w.heap.size, 0, none⟩ = some (.slice A1 T c1) ∧ w'.cell? ⟨w.heap.size, 1, none⟩ = some (.slice A2 N c2))
    (first | go_keep | exact ⟨k0, k1⟩ | exact ⟨k2, k3⟩)
    (first
      | (refine step_append _ rfl (.tmp 3) (.tmp 5) _ rfl Try.elemStr w.heap.size _ 0 [] rfl O1.out F _ _ T rfl ln1 R1.out rds_ones m1 m2 B1.out.size ?_; intro A4 c4 w4 hown4 hg4 hb4; obtain ⟨o4, b4, r4, k0, k1, bl4⟩ := AFT.out A4 c4 w4 hown4 hg4; have o4' := hown4)
      | (refine step_append _ rfl (.tmp 6) (.tmp 8) _ rfl Try.elemStr w.heap.size _ (0 + T) _ rfl o4' F _ _ N rfl ln2 r4 rds_ones m3' m5' b4.size ?_; intro A5 c5 w5 hown5 hg5 hb5; obtain ⟨k2, k3⟩ := AF2.out _ _ _ _ _ bl4 o4' hg5))
  have fin : OwnPost w 9 ((G.terms ++ G.nons).map Value.string) (topOf G) (.returned (.slice A5 (T + N) c5)) w5 := by
    have e : topOf G = T + N := by unfold topOf; rw [← h1.out, ← h2.out]
    rw [e]
    refine ⟨A5, c5, rfl, ?_, b4.grown hg5 b4.size (fun k hk => (o4'.lt k hk).1)⟩
    rw [List.map_append]
    simpa using hown5
  have FIN := hide fin
  clear fin hown5 hg5 hb5
  go_wp2_with fail
  go_ret
  exact FIN.out

/-- conchref06.Find -/
theorem ref_find {w : World} {F : Nat → Prop} {vt vn vr : Value} {G : GramD} (h : IsGram w F vt vn vr G) (st : Int) (hb : G.terms.length + G.nons.length ≤ 65536) (s : ByteArray) :
    Calls Try.prog 32 #[GV vt vn vr st, .string s] w (Quiet w (.int .i64 (findOf G s))) := by
  have h4 := h.below ((Below.refl _ w).alloc (Nat.le_refl _) (.cells #[vt, vn, vr, .int .i64 st] 25))
  obtain ⟨A1, c1, A2, c2, A3, c3, rfl, rfl, rfl, _⟩ := h.slices
  have hn := ref_names h4 st hb
  have hp := place_lt (xs := G.terms ++ G.nons) (s := s)
  simp only [List.length_append] at hp
  have hf : findOf G s = place (G.terms ++ G.nons) s + 1 := rfl
  have HN := hide hn
  have HF := hide hf
  clear hn hf h h4
  go_enter Try.func32, Try.ntmps32
  go_wp2_with fail
  refine HN.out.mono ?_
  rintro e w1 ⟨A, c, rfl, hown, hb1⟩
  go_wp2_with fail
  refine (ref_place (Rd.of_own hown) s).mono ?_
  rintro e w' ⟨rfl, rfl⟩
  go_wp2_with fail
  go_ret
  exact ⟨ret_int HF.out.symm, ((Below.refl _ _).alloc (Nat.le_refl _) _).trans (hb1.mono (by simp))⟩
end Go.Proofs.Ytejjaabkbkkjlaa
