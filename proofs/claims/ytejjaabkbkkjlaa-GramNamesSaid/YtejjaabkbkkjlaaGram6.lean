/- gram.Same and the reference's. -/
import Derived.Test.YtejjaabkbkkjlaaGram5
namespace Go.Proofs.Ytejjaabkbkkjlaa
set_option linter.unusedVariables false
open Go.RowKit

def sameOf (G K : GramD) (st su : Int) : Bool := decide (G.terms = K.terms) && (decide (G.nons = K.nons) && (decide (st = su) && decide (G.rules = K.rules)))

theorem IsGram.blk {w : World} {F : Nat → Prop} {vt vn vr : Value} {G : GramD} (h : IsGram w F vt vn vr G) (o : Obj) : IsGram (w.alloc o) F vt vn vr G := h.below ((Below.refl _ w).alloc (Nat.le_refl _) o)

set_option maxHeartbeats 2000000 in
theorem gram_same {w : World} {F F' : Nat → Prop} {vt vn vr ut un ur : Value} {G K : GramD} (h : IsGram w F vt vn vr G) (g : IsGram w F' ut un ur K) (st su : Int) :
    Calls Try.prog 38 #[GV vt vn vr st, GV ut un ur su] w (Quiet w (.bool (sameOf G K st su))) := by
  have h2 := (h.blk (.cells #[vt, vn, vr, .int .i64 st] 25)).blk (.cells #[ut, un, ur, .int .i64 su] 25)
  have g2 := (g.blk (.cells #[vt, vn, vr, .int .i64 st] 25)).blk (.cells #[ut, un, ur, .int .i64 su] 25)
  obtain ⟨w2, hw2⟩ : ∃ w2, w2 = (w.alloc (.cells #[vt, vn, vr, .int .i64 st] 25)).alloc (.cells #[ut, un, ur, .int .i64 su] 25) := ⟨_, rfl⟩
  have B0 : Below w.heap.size w w2 := by rw [hw2]; exact ((Below.refl _ w).alloc (Nat.le_refl _) _).alloc (by simp) _
  have z0 : w2.heap.size = w.heap.size + 2 := by rw [hw2]; simp
  have k1 : Blk w2 w.heap.size 25 #[vt, vn, vr, .int .i64 st] := by rw [hw2]; exact (Blk.new w _ _).alloc _
  have k2 : Blk w2 (w.heap.size + 1) 25 #[ut, un, ur, .int .i64 su] := by
    rw [hw2]
    have := Blk.new (w.alloc (.cells #[vt, vn, vr, .int .i64 st] 25)) 25 #[ut, un, ur, .int .i64 su]
    simpa using this
  rw [← hw2] at h2 g2
  have cT : ∀ wr, Below w2.heap.size w2 wr → Calls Try.prog 95 #[vt, ut] wr (Quiet wr (.bool (decide (G.terms = K.terms)))) := fun wr hb => equal_strs (h2.below hb).terms (g2.below hb).terms
  have cN : ∀ wr, Below w2.heap.size w2 wr → Calls Try.prog 95 #[vn, un] wr (Quiet wr (.bool (decide (G.nons = K.nons)))) := fun wr hb => equal_strs (h2.below hb).nons (g2.below hb).nons
  have cR : ∀ wr, Below w2.heap.size w2 wr → Calls Try.prog 96 #[vr, ur, .func (.func 83) #[] #[]] wr (Quiet wr (.bool (decide (G.rules = K.rules)))) := fun wr hb => equal_rules (h2.below hb).rules (g2.below hb).rules (h2.below hb).lt (g2.below hb).lt
  have cl1 : ∀ wr, Below w2.heap.size w2 wr → ∀ i v, (#[vt, vn, vr, Value.int .i64 st] : Array Value)[i]? = some v → wr.cell? ⟨w.heap.size, i, none⟩ = some v := fun wr hb i v e => ((k1.below hb (by omega)).cell i).trans e
  have cl2 : ∀ wr, Below w2.heap.size w2 wr → ∀ i v, (#[ut, un, ur, Value.int .i64 su] : Array Value)[i]? = some v → wr.cell? ⟨w.heap.size + 1, i, none⟩ = some v := fun wr hb i v e => ((k2.below hb (by omega)).cell i).trans e
  obtain ⟨A1, c1, A2, c2, A3, c3, rfl, rfl, rfl, _⟩ := h.slices
  obtain ⟨B1, d1, B2, d2, B3, d3, rfl, rfl, rfl, _⟩ := g.slices
  have hso : sameOf G K st su = (decide (G.terms = K.terms) && (decide (G.nons = K.nons) && (decide (st = su) && decide (G.rules = K.rules)))) := rfl
  generalize hq1 : decide (G.terms = K.terms) = q1 at *
  generalize hq2 : decide (G.nons = K.nons) = q2 at *
  generalize hq3 : decide (G.rules = K.rules) = q3 at *
  have hss : decide (st = su) = (st == su) := by by_cases e : st = su <;> simp [e]
  rw [hss] at hso
  generalize hq4 : (st == su) = q4 at *
  have HSO := hide hso
  have CT := hide cT
  have CN := hide cN
  have CR := hide cR
  have C1 := hide cl1
  have C2 := hide cl2
  have HW2 := hide hw2
  have HB0 := hide B0
  clear hq1 hq2 hq3 hss hso cT cN cR cl1 cl2 k1 k2 h2 g2 h g z0 B0
  rw [hw2] at CT CN CR C1 C2 HB0
  clear HW2 hw2
  go_enter Try.func38, Try.ntmps38
  go_wp2_with fail
  refine (CT.out _ (Below.refl _ _)).mono ?_
  rintro e w3 ⟨rfl, b3⟩
  have m1 := C1.out w3 b3 1 _ rfl
  have m2 := C2.out w3 b3 1 _ rfl
  have m3 := C1.out w3 b3 3 _ rfl
  have m4 := C2.out w3 b3 3 _ rfl
  have m5 := C1.out w3 b3 2 _ rfl
  have m6 := C2.out w3 b3 2 _ rfl
  cases q1 with
  | false =>
    go_wp2_with fail
    go_ret
    exact ⟨ret_bool (by rw [HSO.out]; rfl), HB0.out.trans (b3.mono (by simp; omega))⟩
  | true =>
    go_wp2_with fail
    refine (CN.out _ b3).mono ?_
    rintro e w4 ⟨rfl, b4⟩
    have b4' := b3.trans (b4.mono b3.size)
    have m3 := C1.out w4 b4' 3 _ rfl
    have m4 := C2.out w4 b4' 3 _ rfl
    have m5 := C1.out w4 b4' 2 _ rfl
    have m6 := C2.out w4 b4' 2 _ rfl
    cases q2 with
    | false =>
      go_wp2_with fail
      go_ret
      exact ⟨ret_bool (by rw [HSO.out]; rfl), HB0.out.trans (b4'.mono (by simp; omega))⟩
    | true =>
      cases q4 with
      | false =>
        go_wp2_with fail
        go_ret
        exact ⟨ret_bool (by rw [HSO.out]; rfl), HB0.out.trans (b4'.mono (by simp; omega))⟩
      | true =>
        go_wp2_with fail
        refine (CR.out _ b4').mono ?_
        rintro e w5 ⟨rfl, b5⟩
        go_wp2_with fail
        go_ret
        exact ⟨ret_bool (by rw [HSO.out]; cases q3 <;> rfl), HB0.out.trans ((b4'.trans (b5.mono b4'.size)).mono (by simp; omega))⟩
end Go.Proofs.Ytejjaabkbkkjlaa
