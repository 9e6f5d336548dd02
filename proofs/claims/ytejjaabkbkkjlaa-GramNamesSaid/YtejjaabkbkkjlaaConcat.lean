/- slices.Grow at nil, slices.Concat of two lists of texts. -/
import Derived.Test.YtejjaabkbkkjlaaGram3
import Derived.Lib.AppendZeros
namespace Go.Proofs.Ytejjaabkbkkjlaa
set_option linter.unusedVariables false
open Go.RowKit

theorem ownsRow_zero {w : World} {base cap : Nat} {e : TypeId} {Z : Array Value} (hb : base ≤ w.heap.size) (hc : cap ≤ maxLen) (hZ : Z.size = cap * 1) :
    (w.alloc (.cells Z e)).ownsRow base e 1 (.slice (some ⟨w.heap.size, 0, none⟩) 0 cap) 0 [] :=
  ⟨rfl, .inr ⟨w.heap.size, cap, Z, rfl, hb, heap_alloc_new w _, Nat.zero_le _, hc, hZ, by simp⟩⟩

set_option maxRecDepth 100000 in
set_option maxHeartbeats 1000000 in
theorem grow_nil (n : Nat) (hn : n ≤ 65536) (w : World) : Calls Try.prog 156 #[.slice none 0 0, .int .i64 n] w (OwnPost w 9 [] 0) := by
  by_cases h0 : 0 < n
  · obtain ⟨i, hi, hz, hsize, hby⟩ := info_parts Try.infoStr
    have happ := Lib.run_append_nil_zeros (P := Try.prog) w 22 3 22 9 i (.string ByteArray.empty) .i64 .i64 Try.underlying22 Try.underlying3 hi hz n h0 (by omega) (by omega) (by rw [hby]; omega)
    have hge := grownCap_ge w n 0 9
    have hle := grownCap_le_maxLen w n 0 9 (by unfold maxLen; omega)
    generalize grownCap w n 0 9 = cap at happ hge hle
    have hZs : (Builtin.zeroCells (Value.string ByteArray.empty).cells n ++ Builtin.zeroCells (Value.string ByteArray.empty).cells (cap - n)).size = cap * 1 := by simp [size_zeroCells, Value.cells]; omega
    generalize (Builtin.zeroCells (Value.string ByteArray.empty).cells n ++ Builtin.zeroCells (Value.string ByteArray.empty).cells (cap - n)) = Z at happ hZs
    have ho := ownsRow_zero (w := w.drew) (base := w.heap.size) (e := 9) (Nat.le_refl _) hle hZs
    have hb : Below w.heap.size w (w.drew.alloc (.cells Z 9)) := ((Below.refl _ w).drew).alloc (Nat.le_refl _) _
    unfold maxLen at hle
    clear hZs hi hz hsize hby
    have Xhapp := hide happ
    have Xho := hide ho
    have Xhb := hide hb
    clear happ ho hb
    go_enter Try.func156, Try.ntmps156
    go_wp2_with (at_builtin; refine Lib.wpList_append_run _ rfl _ _ _ _ rfl _ _ rfl rfl _ _ Xhapp.out ?_)
    go_ret
    exact ⟨some ⟨w.heap.size, 0, none⟩, cap, rfl, Xho.out, Xhb.out⟩
  · obtain rfl : n = 0 := by omega
    clear hn h0
    go_enter Try.func156, Try.ntmps156
    go_wp2_with fail
    go_ret
    exact ⟨none, 0, rfl, World.ownsRow_nil _ _ _ _, Below.refl _ _⟩

/-- two lists of texts, one behind the other -/
def catUpto (xs ys : List ByteArray) (k : Nat) : List ByteArray := if k = 0 then [] else if k = 1 then xs else xs ++ ys

set_option maxRecDepth 100000 in
set_option maxHeartbeats 2000000 in
theorem concat_two {w : World} {F : Nat → Prop} {va vb : Value} {xs ys : List ByteArray} {B : Nat} (ha : RdS w F va xs) (hb : RdS w F vb ys) (hF : ∀ b, F b → b < w.heap.size) (hk : Blk w B 22 #[va, vb]) (hl : xs.length + ys.length ≤ 65536) :
    Calls Try.prog 133 #[.slice (some ⟨B, 0, none⟩) 2 2] w (OwnPost w 9 ((xs ++ ys).map Value.string) (xs.length + ys.length)) := by
  have c0 : w.cell? ⟨B, 0, none⟩ = some va := (hk.cell 0).trans rfl
  have c1 : w.cell? ⟨B, 1, none⟩ = some vb := (hk.cell 1).trans rfl
  have hbl := hk.lt
  obtain ⟨A1, n1, d1, rfl, -⟩ := id ha
  obtain ⟨A2, n2, d2, rfl, -⟩ := id hb
  obtain ⟨e1, l1, m1, -⟩ := ha.at_
  obtain ⟨e2, l2, m2, -⟩ := hb.at_
  unfold maxLen at m1 m2
  rw [← e1, ← e2] at hl ⊢
  have hg := grow_nil (n1 + n2) hl w
  have ln1 : (xs.map Value.string).length = n1 * 1 := by simpa using e1.symm
  have ln2 : (ys.map Value.string).length = n2 * 1 := by simpa using e2.symm
  have hrd : ∀ wr, Below w.heap.size w wr → wr.cell? ⟨B, 0, none⟩ = some (.slice A1 n1 d1) ∧ wr.cell? ⟨B, 1, none⟩ = some (.slice A2 n2 d2) ∧ RdS wr F (.slice A1 n1 d1) xs ∧ RdS wr F (.slice A2 n2 d2) ys := fun wr h => ⟨(h.cell (p := ⟨B, 0, none⟩) hbl).trans c0, (h.cell (p := ⟨B, 1, none⟩) hbl).trans c1, ha.below h hF, hb.below h hF⟩
  have Xhrd := hide hrd
  have Xhg := hide hg
  have Xln1 := hide ln1
  have Xln2 := hide ln2
  have Xe1 := hide e1
  have Xe2 := hide e2
  clear hrd hg ln1 ln2 e1 e2
  clear ha hb hF hk
  go_enter Try.func133, Try.ntmps133
  go_wp2_with fail
  go_loopw [3, 11] (fun s i wr => ((i = .int .i64 0 ∧ s = .int .i64 0) ∨ (i = .int .i64 1 ∧ s = .int .i64 n1) ∨ (i = .int .i64 2 ∧ s = .int .i64 (n1 + n2 : Nat))) ∧ w = wr) (fun _ i _ => 2 - (intOf i).toNat)
  case atStart => exact ⟨.inl ⟨rfl, rfl⟩, rfl⟩
  case round =>
    obtain ⟨⟨rfl, rfl⟩ | ⟨rfl, rfl⟩ | ⟨rfl, rfl⟩, rfl⟩ := hrel
    · go_wp2_with fail
      go_roundw
      case rel => exact ⟨.inr (.inl ⟨rfl, rfl⟩), by first | rfl | trivial⟩
      case measure => simp [intOf]
    · go_wp2_with fail
      go_roundw
      case rel => exact ⟨.inr (.inr ⟨rfl, by go_num⟩), by first | rfl | trivial⟩
      case measure => simp [intOf]
    · clear c0 c1
      go_wp2_with fail
      refine Xhg.out.mono ?_
      rintro e w1 ⟨A, c, rfl, hown, hb⟩
      have Xhown := hide hown
      have Xhb := hide hb
      clear hown hb
      go_wp2_with fail
      go_loopw [6, 27] (fun s i wr => ∃ (A : Option Addr) (c : Nat), ((i = .int .i64 0 ∧ s = .slice A 0 c ∧ wr.ownsRow w.heap.size 9 1 (.slice A 0 c) 0 []) ∨ (i = .int .i64 1 ∧ s = .slice A n1 c ∧ wr.ownsRow w.heap.size 9 1 (.slice A n1 c) n1 (xs.map Value.string)) ∨ (i = .int .i64 2 ∧ s = .slice A (n1 + n2) c ∧ wr.ownsRow w.heap.size 9 1 (.slice A (n1 + n2) c) (n1 + n2) ((xs ++ ys).map Value.string))) ∧ Below w.heap.size w wr) (fun _ i _ => 2 - (intOf i).toNat)
      case atStart => exact ⟨A, c, .inl ⟨rfl, rfl, Xhown.out⟩, Xhb.out⟩
      case round =>
        clear Xhown Xhb
        obtain ⟨A, c, ⟨rfl, rfl, ho⟩ | ⟨rfl, rfl, ho⟩ | ⟨rfl, rfl, ho⟩, hb⟩ := hrel
        · obtain ⟨q0, q1, r0, r1⟩ := Xhrd.out wr hb
          have hbz := hb.size
          have Xho := hide ho
          have Xr0 := hide r0
          have Xr1 := hide r1
          have Xhb := hide hb
          clear ho r0 r1 hb
          go_wp2_with (at_builtin; refine wp_append _ rfl (.tmp 31) (.tmp 32) _ rfl Try.elemStr w.heap.size _ 0 [] rfl Xho.out F _ _ n1 rfl Xln1.out Xr0.out rds_ones (by unfold maxLen; omega) (by omega) hbz ?_)
          intro A' c' w2 hown2 hg2 hx2
          have ho2 : w2.ownsRow w.heap.size 9 1 (.slice A' n1 c') n1 (xs.map Value.string) := by simpa using hown2
          have hb2 := Xhb.out.grown hg2 hbz (fun q hq => (Xho.out.lt q hq).1)
          clear hown2 hx2
          have Xho2 := hide ho2
          have Xhb2 := hide hb2
          have Xhg2 := hide hg2
          clear ho2 hb2 hg2
          go_wp2_with fail
          go_roundw
          case rel => exact ⟨A', c', .inr (.inl ⟨rfl, rfl, Xho2.out⟩), Xhb2.out⟩
          case measure => simp [intOf]
        · obtain ⟨q0, q1, r0, r1⟩ := Xhrd.out wr hb
          have hbz := hb.size
          have Xho := hide ho
          have Xr0 := hide r0
          have Xr1 := hide r1
          have Xhb := hide hb
          clear ho r0 r1 hb
          go_wp2_with (at_builtin; refine wp_append _ rfl (.tmp 31) (.tmp 32) _ rfl Try.elemStr w.heap.size _ n1 (xs.map Value.string) rfl Xho.out F _ _ n2 rfl Xln2.out Xr1.out rds_ones (by unfold maxLen; omega) (by omega) hbz ?_)
          intro A' c' w2 hown2 hg2 hx2
          have ho2 : w2.ownsRow w.heap.size 9 1 (.slice A' (n1 + n2) c') (n1 + n2) ((xs ++ ys).map Value.string) := by rw [List.map_append]; exact hown2
          have hb2 := Xhb.out.grown hg2 hbz (fun q hq => (Xho.out.lt q hq).1)
          clear hown2 hx2
          have Xho2 := hide ho2
          have Xhb2 := hide hb2
          have Xhg2 := hide hg2
          clear ho2 hb2 hg2
          go_wp2_with fail
          go_roundw
          case rel => exact ⟨A', c', .inr (.inr ⟨rfl, rfl, Xho2.out⟩), Xhb2.out⟩
          case measure => simp [intOf]
        · have Xho := hide ho
          have Xhb := hide hb
          clear ho hb
          go_wp2_with fail
          go_ret
          exact ⟨A, c, rfl, Xho.out, Xhb.out⟩
end Go.Proofs.Ytejjaabkbkkjlaa
