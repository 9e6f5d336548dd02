/- Contracts of package bits, part 2: New, words, Or, Meet. -/
import Derived.Test.YtejjaabkbkkjlaaBits
import Derived.Laws.MakeOwn
namespace Go.Proofs.Ytejjaabkbkkjlaa
set_option linter.unusedVariables false
open Go.RowKit

theorem Try.info64 : (Try.prog.info? 131).map (fun i => (i.zero, i.size, i.bytes)) = some (some (.int .u64 0), 1, 8) := by kernel_rfl
theorem Try.elem64 : Elem Try.prog 134 131 (.int .u64 0) 1 8 := ⟨Try.underlying134, Try.info64, rfl, by decide⟩

/-- make([]T, n) of one-cell elements, whatever the world -/
theorem make_rows {P : Program} {t e : TypeId} {z : Value} {bytes : Nat} (E : Elem P t e z 1 bytes) (hz : z.cells = #[z]) (n : Nat) (hb : bytes * n ≤ 281474976710656) (hn : n ≤ 9223372036854775807) (kl kc : IntKind) (w : World) :
    (Instr.makeSlice t (.int kl (n : Int)) (.int kc (n : Int))).run P w = .ok (.slice (some ⟨w.heap.size, 0, none⟩) n n) (w.alloc (.cells (List.replicate n z).toArray e)) := by
  obtain ⟨i, hi, hz', hsize, hby⟩ := info_parts E.info
  have hbb : (i.bytes : Int) * (n : Int) ≤ 281474976710656 := by
    have h : ((i.bytes * n : Nat) : Int) ≤ 281474976710656 := by rw [hby]; omega
    rwa [Int.natCast_mul] at h
  have hr := run_make (P := P) w t e i z E.slice hi hz' kl kc n n (by omega) (by omega) hbb (by omega)
  simp only [Int.toNat_natCast] at hr
  rw [hr, hsize, Nat.mul_one, hz]
  congr 3
  apply Array.toList_inj.1
  rw [toList_madeCells_one]

def noBits (_ : Nat) : Bool := false
theorem bitOf_zero (m j : Nat) : bitOf (List.replicate m 0#64) j = false := by
  unfold bitOf
  by_cases h : j / 64 < m <;> simp [List.getD, h]

def NewPost (w : World) (n : Nat) (e : Ending) (w' : World) : Prop := e = .returned (.pointer (some ⟨w.heap.size + 1, 0, none⟩)) ∧ IsSet w' (w.heap.size + 1) (New (fun _ => False) w w') n noBits ∧ Below w.heap.size w w'

theorem set_new_at (w : World) (n k : Nat) (hk : k = (n + 63) / 64) (hn : n ≤ 4096) :
    NewPost w n (.returned (.pointer (some ⟨w.heap.size + 1, 0, none⟩))) ((w.alloc (.cells (List.replicate k (.int .u64 0)).toArray 131)).alloc (.cells #[.int .i64 n, .slice (some ⟨w.heap.size, 0, none⟩) k k] 136)) := by
  have hb := Blk.new (w.alloc (.cells (List.replicate k (.int .u64 0)).toArray 131)) 136 #[.int .i64 n, .slice (some ⟨w.heap.size, 0, none⟩) k k]
  have hr := (Blk.new w 131 (List.replicate k (.int .u64 0)).toArray).alloc (.cells #[.int .i64 n, .slice (some ⟨w.heap.size, 0, none⟩) k k] 136)
  simp at hb
  refine ⟨rfl, ⟨⟨w.heap.size, List.replicate k 0#64, ⟨⟨k, by simpa using hb, by simp, by unfold maxLen; omega⟩, by simpa [U64] using hr, by simp [hk], hn, fun j _ => bitOf_zero _ _⟩, .inr ⟨Nat.le_refl _, by simp; omega⟩, fun j => bitOf_zero _ _⟩, .inr ⟨by omega, by simp⟩, fun j hj => by rcases hj with hj | hj; exact hj.elim; exact hj.2⟩, ((Below.refl _ w).alloc (Nat.le_refl _) _).alloc (by simp) _⟩

theorem set_new (m : Int) (w : World) :
    Calls Try.prog 114 #[.int .i64 m] w (NewPost w (min (max m 0) 4096).toNat) := by
  by_cases h0 : m < 0
  · have hmk : ∀ w : World, (Instr.makeSlice 134 (.int .i64 0) (.int .i64 0)).run Try.prog w = .ok (.slice (some ⟨w.heap.size, 0, none⟩) 0 0) (w.alloc (.cells (List.replicate 0 (.int .u64 0)).toArray 131)) := make_rows (P := Try.prog) Try.elem64 rfl 0 (by omega) (by omega) .i64 .i64
    have hp := set_new_at w 0 0 (by decide) (by decide)
    rw [show (min (max m 0) 4096).toNat = 0 by omega]
    have HP := hide hp
    clear hp
    go_enter Try.func114, Try.ntmps114
    go_wp2
    go_ret
    exact HP.out
  · by_cases h1 : 4096 < m
    · have hmk : ∀ w : World, (Instr.makeSlice 134 (.int .i64 64) (.int .i64 64)).run Try.prog w = .ok (.slice (some ⟨w.heap.size, 0, none⟩) 64 64) (w.alloc (.cells (List.replicate 64 (.int .u64 0)).toArray 131)) := make_rows (P := Try.prog) Try.elem64 rfl 64 (by omega) (by omega) .i64 .i64
      have hp := set_new_at w 4096 64 (by decide) (by decide)
      rw [show (min (max m 0) 4096).toNat = 4096 by omega]
      obtain ⟨rep, hrep⟩ : ∃ r, r = List.replicate 64 (Value.int .u64 0) := ⟨_, rfl⟩
      rw [← hrep] at hmk hp
      have HP := hide hp
      clear hp hrep
      go_enter Try.func114, Try.ntmps114
      go_wp2
      go_ret
      exact HP.out
    · obtain ⟨k, rfl⟩ := Int.eq_ofNat_of_zero_le (show 0 ≤ m by omega)
      have hmk := make_rows (P := Try.prog) Try.elem64 rfl ((k + 63) / 64) (by omega) (by omega) .i64 .i64
      rw [show (((k + 63) / 64 : Nat) : Int) = ((k : Int) + 63) / 64 by omega] at hmk
      have hp := set_new_at w k _ rfl (by omega)
      rw [show (min (max (k : Int) 0) 4096).toNat = k by omega]
      obtain ⟨rep, hrep⟩ : ∃ r, r = List.replicate ((k + 63) / 64) (Value.int .u64 0) := ⟨_, rfl⟩
      rw [← hrep] at hmk hp
      have HP := hide hp
      clear hp hrep
      go_enter Try.func114, Try.ntmps114
      go_wp2
      go_ret
      exact HP.out

theorem clone_u64 {w : World} {F : Nat → Prop} {v : Value} {n : Nat} {xs : List Value} (h : Rd w F v 1 xs) (hn : xs.length = n * 1) (h1 : ∀ u ∈ xs, u.oneCell' = true) (hl : n ≤ 65536) :
    Calls Try.prog 169 #[v] w fun e w' => ∃ A c, e = .returned (.slice A n c) ∧ w'.ownsRow w.heap.size 131 1 (.slice A n c) n xs ∧ Below w.heap.size w w' := by
  obtain ⟨A, m, c, rfl, hnc, hcm, hm, hcell⟩ := id h
  obtain rfl : m = n := by omega
  have hnil := Lib.run_eql_slice_nil (P := Try.prog) w 134 131 A m c 0 0 Try.underlying134
  rcases A with _ | ad
  · obtain rfl : m = 0 := by
      rcases Nat.eq_zero_or_pos m with h0 | h0
      · exact h0
      · obtain ⟨_, _, hA, _⟩ := hcell h0; cases hA
    obtain rfl : xs = [] := List.eq_nil_of_length_eq_zero (by omega)
    clear hl h hn hcell hm h1
    go_enter Try.func169, Try.ntmps169
    go_wp2
    go_ret
    exact ⟨none, 0, rfl, World.ownsRow_nil _ _ _ _, Below.refl _ _⟩
  · have H := hide h
    have HN := hide hn
    clear h hcell hm hn
    go_enter Try.func169, Try.ntmps169
    go_wp2_with (at_builtin; refine wp_append _ rfl (.tmp 5) (.tmp 6) _ rfl Try.elem64 w.heap.size _ 0 [] rfl (World.ownsRow_made w #[] 0 (Nat.le_refl _) (by decide) rfl) _ _ xs m rfl HN.out (H.out.touch ((Touch.refl (fun _ => False) _).alloc _) (fun _ _ hf => hf)) h1 (by unfold maxLen; omega) (by omega) (by simp) ?_)
    intro A c2 w2 hown hg _
    go_wp2
    go_ret
    exact ⟨A, c2, by simp, by simpa using hown, (((Below.refl _ w).alloc (Nat.le_refl _) _).grown hg (by simp) (fun k e => by simp [Value.ownBlock] at e; omega))⟩


/-- words -/
theorem words_nil (k : Int) (w : World) : Calls Try.prog 164 #[.pointer none, .int .i64 k] w fun e w' => e = .returned (.slice none 0 0) ∧ w = w' := by
  go_enter Try.func164, Try.ntmps164
  go_wp2
  go_ret
  exact ⟨rfl, rfl⟩

def WordsPost (w : World) (k : Nat) (f : Nat → Bool) (e : Ending) (w' : World) : Prop :=
  ∃ A c vs, e = .returned (.slice A vs.length c) ∧ w'.ownsRow w.heap.size 131 1 (.slice A vs.length c) vs.length (vs.map U64) ∧ Below w.heap.size w w' ∧ vs.length = (k + 63) / 64 ∧ ∀ j, bitOf vs j = (f j && decide (j < k))

set_option maxRecDepth 100000 in
set_option maxHeartbeats 1000000 in
theorem set_words {w : World} {b n : Nat} {f : Nat → Bool} {S : Nat → Prop} (h : IsSet w b S n f) (m : Nat) (hm : m ≤ 4096) :
    Calls Try.prog 164 #[.pointer (some ⟨b, 0, none⟩), .int .i64 m] w (WordsPost w (min m n) f) := by
  obtain ⟨⟨r, ws, hi', hr, hf⟩, hb', hlt⟩ := id h
  obtain ⟨c, h1, hc, hcm⟩ := hi'.blk
  have hlen := hi'.len
  have hroom := hi'.room
  have c0 := h1.cell 0
  have c1 := h1.cell 1
  simp at c0 c1
  unfold maxLen at hcm
  obtain ⟨k, hk⟩ : ∃ k, k = min m n := ⟨_, rfl⟩
  have hkn : k ≤ n := by omega
  have hkl : (k + 63) / 64 ≤ ws.length := by omega
  have h63 := i64_and_63 k (by omega)
  have hcut := bitOf_cut ws k hkl
  have hcl := cutWords_length ws k hkl
  have hrd : Rd w (· = r) (.slice (some ⟨r, 0, none⟩) ((k + 63) / 64) c) 1 ((ws.take ((k + 63) / 64)).map U64) :=
    ⟨_, _, c, rfl, by omega, by unfold maxLen; omega, by simp; omega, fun _ => ⟨r, 0, rfl, rfl, fun j u hu => by
      rw [hi'.words.cell]
      rw [List.getElem?_map, List.getElem?_take] at hu
      split at hu
      · simpa using hu
      · simp at hu⟩⟩
  have hclone := clone_u64 hrd (n := (k + 63) / 64) (by simp; omega) (fun u hu => by obtain ⟨x, _, rfl⟩ := List.mem_map.1 hu; rfl) (by omega)
  have hfin : ∀ j, bitOf (cutWords ws k) j = (f j && decide (j < k)) := fun j => by rw [hcut, hf]
  rw [← hk]
  have HC := hide hclone
  have HF := hide hfin
  have HL := hide hcl
  have hmn : (k = m ∧ (m : Int) < n) ∨ (k = n ∧ (n : Int) < m) ∨ (k = n ∧ n = m) := by omega
  obtain ⟨L, hL⟩ : ∃ L, L = (k + 63) / 64 := ⟨_, rfl⟩
  have hLc : L ≤ c := by omega
  have hLw : L ≤ ws.length := by omega
  have hLi : ((k : Int) + 63) / 64 = (L : Int) := by omega
  have HLL := hide hL
  by_cases hz : k % 64 = 0
  · have hcw : cutWords ws k = ws.take L := by unfold cutWords; rw [if_pos hz, hL]
    rw [hz] at h63
    have HW := hide hcw
    rw [← hL] at HC HL
    clear hclone hfin hcl hcut hrd h hf hlt h1 hi' hlen hcw hL hz hkl hk
    have fin : ∀ (A : Option Addr) (c2 : Nat) (w' : World), w'.ownsRow w.heap.size 131 1 (.slice A L c2) L ((ws.take L).map U64) → Below w.heap.size w w' → WordsPost w k f (.returned (.slice A L c2)) w' := fun A c2 w' hown hbel =>
      ⟨A, c2, cutWords ws k, by rw [HL.out], by rw [HL.out, HW.out]; exact hown, hbel, by rw [HL.out, HLL.out], HF.out⟩
    have FIN := hide fin
    clear fin
    rcases hmn with ⟨rfl, hmn⟩ | ⟨rfl, hmn⟩ | ⟨rfl, rfl⟩
    all_goals
      go_enter Try.func164, Try.ntmps164
      go_wp2_with (go_at_call 169; refine HC.out.mono ?_; rintro e w' ⟨A, c2, rfl, hown, hbel⟩)
      go_ret
      exact FIN.out A c2 w' hown hbel
  · obtain ⟨x, hx⟩ : ∃ x, ws[k / 64]? = some x := ⟨_, List.getElem?_eq_getElem (by omega)⟩
    have hL0 : 0 < L := by omega
    have hLk : L - 1 = k / 64 := by omega
    obtain ⟨m0, hm0⟩ : ∃ m0, m0 = k % 64 := ⟨_, rfl⟩
    have hm64 : m0 < 64 := by omega
    have hcw : cutWords ws k = (ws.take L).set (L - 1) (x &&& mask m0) := by
      unfold cutWords
      rw [if_neg hz, ← hL, ← hm0]
      simp [List.getD, hx]
    rw [← hm0] at h63
    have hm0i : ((m0 : Int) == 0) = false := by simpa using (by omega : ¬ m0 = 0)
    have hm0n : ¬ m0 = 0 := by omega
    have hsh := wrap_pow m0 hm64
    have hmk := wrap_mask m0 hm64
    have hand := u64_and_bv x (mask m0)
    have hL0i : (0 : Int) < L := by omega
    have hcell : ((ws.take L).map U64)[L - 1]? = some (U64 x) := by
      rw [List.getElem?_map, List.getElem?_take, if_pos (by omega), hLk, hx]; rfl
    have HW := hide hcw
    have HX := hide hcell
    rw [← hL] at HC HL
    clear hclone hfin hcl hcut hrd h hf hlt h1 hi' hlen hcw hL hz hkl hk hx hLk hcell hm0
    have fin : ∀ (A : Option Addr) (c2 : Nat) (w' : World), w'.ownsRow w.heap.size 131 1 (.slice A L c2) L (((ws.take L).map U64).set (L - 1) (U64 (x &&& mask m0))) → Below w.heap.size w w' → WordsPost w k f (.returned (.slice A L c2)) w' := fun A c2 w' hown hbel =>
      ⟨A, c2, cutWords ws k, by rw [HL.out], by rw [HL.out, HW.out, List.map_set]; exact hown, hbel, by rw [HL.out, HLL.out], HF.out⟩
    have FIN := hide fin
    clear fin
    generalize x &&& mask m0 = y at *
    generalize mask m0 = mk at *
    generalize one m0 = o1 at *
    rcases hmn with ⟨rfl, hmn⟩ | ⟨rfl, hmn⟩ | ⟨rfl, rfl⟩
    all_goals
      go_enter Try.func164, Try.ntmps164
      go_wp2_with fail
      refine HC.out.mono ?_
      rintro e w' ⟨A, c2, rfl, hown, hbel⟩
      obtain ⟨g, cap, hv, hgb, hglt⟩ := hown.form hL0
      injection hv with hv _ hc2
      subst hv hc2
      have hcx := (hown.cellAt (L - 1) (by omega)).trans HX.out
      have hfr := hown.frozenAt (L - 1)
      obtain ⟨hst, hgr⟩ := hown.stored (L - 1) (U64 y)
      have HST := hide hst
      have HGR := hide hgr
      clear hst hgr hown
      go_wp2_with fail
      go_ret
      exact FIN.out _ _ _ HST.out (hbel.grown HGR.out hbel.size (fun k e => by injection e with e; omega))
end Go.Proofs.Ytejjaabkbkkjlaa
