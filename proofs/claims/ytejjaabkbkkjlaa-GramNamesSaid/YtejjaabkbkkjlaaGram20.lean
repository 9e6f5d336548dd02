/- gram.known, and Check's closure that calls it. -/
import Derived.Test.YtejjaabkbkkjlaaGram19
namespace Go.Proofs.Ytejjaabkbkkjlaa
set_option linter.unusedVariables false
open Go.RowKit

def knownOf (G : GramD) (r : Int × List Int) : Bool := isNon G r.1 && r.2.all (fun s => isTerm G s || isNon G s)

set_option maxHeartbeats 1000000 in
theorem gram_known {w : World} {F F' : Nat → Prop} {vt vn vr v : Value} {G : GramD} {l : Int} {xs : List Int} (h : IsGram w F vt vn vr G) (st : Int) (hr : RdI w F' v xs) (hF : ∀ b, F' b → b < w.heap.size) :
    Calls Try.prog 81 #[GV vt vn vr st, .agg #[.int .i64 l, v]] w (Quiet w (.bool (knownOf G (l, xs)))) := by
  obtain ⟨w2, hw2⟩ : ∃ w2, w2 = (w.alloc (.cells #[vt, vn, vr, .int .i64 st] 25)).alloc (.cells #[.int .i64 l, v] 30) := ⟨_, rfl⟩
  have B0 : Below w.heap.size w w2 := by rw [hw2]; exact ((Below.refl _ w).alloc (Nat.le_refl _) _).alloc (by simp) _
  have h2 := h.below B0
  have r2 := hr.below B0 hF
  have k1 : Blk w2 w.heap.size 25 #[vt, vn, vr, .int .i64 st] := by rw [hw2]; exact (Blk.new w _ _).alloc _
  have k2 : Blk w2 (w.heap.size + 1) 30 #[.int .i64 l, v] := by
    rw [hw2]
    have := Blk.new (w.alloc (.cells #[vt, vn, vr, .int .i64 st] 25)) 30 #[.int .i64 l, v]
    simpa using this
  have cn := gram_non h2 st l
  have ca : ∀ wr, Below w2.heap.size w2 wr → Calls Try.prog 134 #[v, .func (.func 135) #[] #[.pointer (some ⟨w.heap.size, 0, none⟩)]] wr (Quiet wr (.bool (xs.all (fun s => isTerm G s || isNon G s)))) := fun wr hb =>
    all_ints (r2.below (hb.mono B0.size) hF) (fun b e => Nat.lt_of_lt_of_le (hF b e) (Nat.le_trans B0.size hb.size)) Try.enters_known1 (known_clo (h2.below hb) (k1.below hb k1.lt))
  have cl2 : ∀ wr, Below w2.heap.size w2 wr → ∀ i v', (#[Value.int .i64 l, v] : Array Value)[i]? = some v' → wr.cell? ⟨w.heap.size + 1, i, none⟩ = some v' := fun wr hb i v e => ((k2.below hb k2.lt).cell i).trans e
  have hko : knownOf G (l, xs) = (isNon G l && xs.all (fun s => isTerm G s || isNon G s)) := rfl
  obtain ⟨A1, c1, A2, c2, A3, c3, rfl, rfl, rfl, _⟩ := h.slices
  obtain ⟨A, n, c, rfl, _⟩ := id hr
  generalize isNon G l = q1 at *
  generalize xs.all (fun s => isTerm G s || isNon G s) = q2 at *
  have HKO := hide hko
  have CN := hide cn
  have CA := hide ca
  have C2 := hide cl2
  have HB := hide B0
  have hz := B0.size
  have hmf : ∀ (fn : Fn) (first cap : Array Value) (w : World), (Instr.makeFunc fn first cap).run Try.prog w = .ok (.func fn first cap) w := fun _ _ _ _ => rfl
  clear hko cn ca cl2 k1 k2 h2 h r2 hr B0
  rw [hw2] at CN CA C2 HB
  clear hw2 hz
  go_enter Try.func81, Try.ntmps81
  go_wp2_with fail
  refine CN.out.mono ?_
  rintro e w3 ⟨rfl, b3⟩
  have m1 := C2.out w3 b3 1 _ rfl
  cases q1 with
  | false =>
    go_wp2_with fail
    go_ret
    exact ⟨ret_bool (by rw [HKO.out]; rfl), HB.out.trans (b3.mono HB.out.size)⟩
  | true =>
    go_wp2_with fail
    refine (CA.out _ b3).mono ?_
    rintro e w4 ⟨rfl, b4⟩
    go_wp2_with fail
    go_ret
    exact ⟨ret_bool (by rw [HKO.out]; cases q2 <;> rfl), HB.out.trans ((b3.trans (b4.mono b3.size)).mono HB.out.size)⟩

theorem Try.enters_known3 : Enters Try.prog 80 := enters_of Try.func80 (by kernel_rfl) rfl
theorem known3_clo {w : World} {F F' : Nat → Prop} {vt vn vr : Value} {G : GramD} {st : Int} {B : Nat} (h : IsGram w F vt vn vr G) (k1 : Blk w B 25 #[vt, vn, vr, .int .i64 st]) (hF : ∀ b, F' b → b < w.heap.size) :
    PredR w F' 80 #[.pointer (some ⟨B, 0, none⟩)] (fun r => knownOf G r) := by
  intro W v r hW hr
  obtain ⟨W2, hW2⟩ : ∃ W2, W2 = W.alloc (.cells #[.int .i64 r.1, v] 30) := ⟨_, rfl⟩
  have b2 : Below W.heap.size W W2 := by rw [hW2]; exact (Below.refl _ W).alloc (Nat.le_refl _) _
  have hFW : ∀ b, F' b → b < W.heap.size := fun b e => Nat.lt_of_lt_of_le (hF b e) hW.size
  have hk := gram_known (l := r.1) (h.below (hW.trans (b2.mono hW.size))) st (hr.below b2 hFW) (fun b e => Nat.lt_of_lt_of_le (hFW b e) b2.size)
  have k2 := (k1.below hW k1.lt).below b2 (k1.below hW k1.lt).lt
  have k3 := k1.below hW k1.lt
  have hB := k3.lt
  have cl : ∀ i v', (#[vt, vn, vr, Value.int .i64 st] : Array Value)[i]? = some v' → W2.cell? ⟨B, i, none⟩ = some v' := fun i v e => (k2.cell i).trans e
  have p0 := cl 0 _ rfl
  have p1 := cl 1 _ rfl
  have p2 := cl 2 _ rfl
  have p3 := cl 3 _ rfl
  obtain ⟨A1, c1, A2, c2, A3, c3, rfl, rfl, rfl, _⟩ := h.slices
  obtain ⟨A, n, c, rfl, _⟩ := id hr
  rw [hW2] at hk p0 p1 p2 p3 b2
  show Calls Try.prog 80 #[.agg #[.int .i64 r.1, .slice A n c], .pointer (some ⟨B, 0, none⟩)] W (Quiet W (.bool (knownOf G (r.1, r.2))))
  obtain ⟨l, hl⟩ : ∃ l, l = r.1 := ⟨_, rfl⟩
  rw [← hl] at hk p0 p1 p2 p3 b2 ⊢
  generalize knownOf G (l, r.2) = q at *
  have HK := hide hk
  have HB := hide b2
  clear hW b2 hr hl hk k1 k2 k3 h cl hW2 hF hFW
  go_enter Try.func80, Try.ntmps80
  go_wp2_with fail
  refine HK.out.mono ?_
  rintro e w3 ⟨rfl, b3⟩
  go_wp2_with fail
  go_ret
  exact ⟨rfl, HB.out.trans (b3.mono HB.out.size)⟩
end Go.Proofs.Ytejjaabkbkkjlaa
