/- Of no program: a range over a function whose iterator keeps blocks of its own (O) between two rounds and reads others (R): its contract, and the caller's law. -/
import Derived.Test.YtacankgalkffmaaGreatMarks
namespace Go.Proofs.YtacankgalkffmaaGreat
set_option linter.unusedVariables false
open Go.RowKit
def SeqOwn {α : Type} (F : Fence) (n : Nat) (P : Program) (g : Nat) (lb : Array Value) (encs : α → Array Value) (R : Nat → Prop) (S Sp : List α → Prop) (w : World) : Prop :=
 ∀ (l : Nat) (J Jx : List α → (Nat → Prop) → World → Prop) (W : World), Below w.heap.size w W →
  (∀ pre O O' A B, J pre O A → Touch O A B → (∀ b, O b → O' b) → (∀ b, O' b → O b ∨ A.heap.size ≤ b) → J pre O' B) →
  (∀ pre O A B, Jx pre O A → Touch O A B → Jx pre O B) →
  (∀ pre O x W1, J pre O W1 → (∀ b, O b → W.heap.size ≤ b ∧ b < W1.heap.size) → Sp (pre ++ [x]) → YieldAt F (n - 1) P l (encs x) W1 fun e W' =>
   (e = .returned (.bool true) ∧ J (pre ++ [x]) O W' ∧ Touch (fun b => ¬ R b ∧ ¬ O b) W1 W') ∨ (e = .returned (.bool false) ∧ Jx (pre ++ [x]) O W' ∧ Touch (fun b => ¬ R b ∧ ¬ O b) W1 W')) →
  J [] (fun _ => False) W →
  CallsIn F n P g (#[.func (.yield l) #[] #[]] ++ lb) W fun e W' => (∃ v, e = .returned v) ∧ ((∃ xs O, S xs ∧ J xs O W') ∨ (∃ pre O, Sp pre ∧ Jx pre O W'))
theorem touch_putObj {w : World} {l : Nat} (o : Obj) : Touch (fun b => b = l) w (w.putObj l o) :=
 (Touch.refl _ _).grown (grownBy_putObj' w l o) (fun k e _ => by cases e; rfl)
def ownPostO {α : Type} (B : Nat) (R O : Nat → Prop) (I : List α → (Nat → Prop) → World → Prop) (Ix : Code → List α → (Nat → Prop) → World → Prop) (xs : List α) (W : World) : Exit → Act → World → Prop
 | .normal, _, W' => Touch (fun b => ¬ R b ∧ ¬ O b ∧ b ≠ B ∧ b ≠ B + 1) W W' ∧ I xs O W'
 | .ret, _, W' => Touch (fun b => ¬ R b ∧ ¬ O b ∧ b ≠ B ∧ b ≠ B + 1) W W' ∧ Ix .ret xs O W'
 | .exit id, _, W' => Touch (fun b => ¬ R b ∧ ¬ O b ∧ b ≠ B ∧ b ≠ B + 1) W W' ∧ Ix (.exit id) xs O W'
 | .goto t, _, W' => Touch (fun b => ¬ R b ∧ ¬ O b ∧ b ≠ B ∧ b ≠ B + 1) W W' ∧ Ix (.goto t) xs O W'
 | .panic _, _, _ => False
 | .outgrown, _, _ => False
theorem wpIn_rangeFunc_ownO {F : Fence} {n : Nat} {P : Program} {α : Type} {g : Operand} {ps : Array Tmp} {assign body : Code} {Q : Exit → Act → World → Prop} {a : Act} {w : World}
  (hro : F.round = none) (h1 : 1 ≤ n) {gf : Nat} {lb : Array Value} (hg : a.eval g = .func (.func gf) #[] lb) (hFg : F.fn gf) (eg : ∀ args w, (callFunc gf args).run P w = .ok (.enter gf args) w)
  {encs : α → Array Value} {R : Nat → Prop} {S Sp : List α → Prop} {w0 : World} (hseq : SeqOwn F (n - 1) P gf lb encs R S Sp w0)
  (hR : ∀ b, R b → b < w.heap.size) (hb0 : Below w0.heap.size w0 w) (hps : ∀ x, (encs x).size = ps.size)
  (I : List α → (Nat → Prop) → World → Prop) (Ix : Code → List α → (Nat → Prop) → World → Prop)
  (hI : ∀ pre O O' X A B, I pre O A → Touch X A B → (∀ b, X b → O b ∨ b = w.heap.size ∨ b = w.heap.size + 1) → (∀ b, O b → O' b) → (∀ b, O' b → O b ∨ A.heap.size ≤ b) → I pre O' B)
  (hIx : ∀ c pre O X A B, Ix c pre O A → Touch X A B → (∀ b, X b → O b ∨ b = w.heap.size ∨ b = w.heap.size + 1) → Ix c pre O B)
  (h0 : I [] (fun _ => False) w) (a₁ : α → Act)
  (hassign : ∀ (l : Nat) (x : α) (W : World) (K : Act → World → Prop), K (a₁ x) W →
   assign.wpIn (F.inRound l) (n - 1 - 1) P (Exit.then K (fun _ _ _ => False)) { tmps := (ps.zip (encs x)).foldl (fun t (p, v) => t.setIfInBounds p v) a.tmps, defers := [] } W)
  (hbody : ∀ (l : Nat) (pre : List α) (O : Nat → Prop) (x : α) (W : World), I pre O W → (∀ b, O b → w.heap.size + 2 ≤ b ∧ b < W.heap.size) → w.heap.size + 2 ≤ W.heap.size → Sp (pre ++ [x]) → body.wpIn (F.inRound l) (n - 1 - 1) P (ownPostO w.heap.size R O I Ix (pre ++ [x]) W) (a₁ x) W)
  (hdone : ∀ (D : Nat) (xs : List α) (O : Nat → Prop) (W : World), w.heap.size ≤ D → S xs → I xs O W → W.heap[D]? = some (.deferred (some [])) → Q .normal { a with defers := { target := .collected D, args := #[] } :: a.defers } W)
  (hstop : ∀ (D : Nat) (c : Code) (pre : List α) (O : Nat → Prop) (W : World), w.heap.size ≤ D → Sp pre → Ix c pre O W → W.heap[D]? = some (.deferred (some [])) → c.wpIn F n P Q { a with defers := { target := .collected D, args := #[] } :: a.defers } W) :
  (Code.rangeFunc g ps assign body).wpIn F n P Q a w := by
 refine wpIn_rangeFunc ?_
 intro fn hfn
 rw [hro]
 obtain ⟨rec, hrec⟩ : ∃ rec : LoopState → Option Code → Loop, rec = fun st pe => { state := st, pending := pe, fn, tmps := a.tmps, params := ps, assign, body, defers := w.heap.size } := ⟨_, rfl⟩
 obtain ⟨W1, hW1⟩ : ∃ W1, (w.alloc (.deferred (some []))).alloc (.loop (rec .ready none)) = W1 := ⟨_, rfl⟩
 have hL1 : W1.heap[w.heap.size + 1]? = some (.loop (rec .ready none)) := by
  rw [← hW1]; have := World.alloc_heap_new (w.alloc (.deferred (some []))) (.loop (rec .ready none)); rwa [World.size_alloc] at this
 have hK1 : W1.heap[w.heap.size]? = some (.deferred (some [])) := by
  rw [← hW1]; exact (Below.heap_alloc _ _ _ (by simp)).trans (World.alloc_heap_new w _)
 have hs1 : W1.heap.size = w.heap.size + 2 := by rw [← hW1]; simp
 have hI1 : I [] (fun _ => False) W1 := by
  rw [← hW1]
  exact hI _ _ _ (fun _ => False) _ _ h0 (((Touch.refl _ _).alloc _).alloc _) (fun b h => h.elim) (fun b h => h) (fun b h => .inl h)
 have hb1 : Below w0.heap.size w0 W1 := by
  rw [← hW1]; exact hb0.trans ((((Below.refl _ w).alloc (Nat.le_refl _) _).alloc (by simp) _).mono hb0.size)
 refine ⟨w.heap.size + 1, [{ target := .collected w.heap.size, args := #[] }], W1, { target := .fn (.func gf) lb, args := #[.func (.yield (w.heap.size + 1)) #[] #[]] }, W1, gf,
  #[.func (.yield (w.heap.size + 1)) #[] #[]] ++ lb, W1, ?_, ?_, ?_, ?_, fun _ => h1, ?_⟩
 ·rw [← hW1, hrec]; exact run_enterLoop_outer _ _ _ _ _
 ·simp only [resolve, hg]
  simp [go_sem]
 ·intro f' hf'; simp [Target.leads] at hf'; subst hf'; exact hFg
 ·simp [invoke, go_sem, eg]
 ·refine (hseq (w.heap.size + 1)
   (fun pre O W => I pre O W ∧ W.heap[w.heap.size + 1]? = some (.loop (rec .ready none)) ∧ W.heap[w.heap.size]? = some (.deferred (some [])) ∧ ∀ b, O b → w.heap.size + 2 ≤ b)
   (fun pre O W => ∃ c, Ix c pre O W ∧ W.heap[w.heap.size + 1]? = some (.loop (rec .done (some c))) ∧ W.heap[w.heap.size]? = some (.deferred (some [])) ∧ ∀ b, O b → w.heap.size + 2 ≤ b)
   W1 hb1 ?_ ?_ ?_ ⟨hI1, hL1, hK1, fun b h => h.elim⟩).mono ?_
  ·rintro pre O O' A B ⟨hi, hl, hk, ho⟩ ht h1 h2
   have hlt : w.heap.size + 1 < A.heap.size := (Array.getElem?_eq_some_iff.1 hl).1
   refine ⟨hI _ _ _ _ _ _ hi ht (fun b h => .inl h) h1 h2, (ht.block _ hlt (fun c => by have := ho _ c; omega)).trans hl, (ht.block _ (by omega) (fun c => by have := ho _ c; omega)).trans hk, fun b h => ?_⟩
   rcases h2 b h with e | e
   ·exact ho b e
   ·omega
  ·rintro pre O A B ⟨c, hi, hl, hk, ho⟩ ht
   have hlt : w.heap.size + 1 < A.heap.size := (Array.getElem?_eq_some_iff.1 hl).1
   exact ⟨c, hIx _ _ _ _ _ _ hi ht (fun b h => .inl h), (ht.block _ hlt (fun c => by have := ho _ c; omega)).trans hl, (ht.block _ (by omega) (fun c => by have := ho _ c; omega)).trans hk, ho⟩
  ·rintro pre O x W ⟨hi, hl, hk, ho⟩ hO hlen
   have hlt : w.heap.size + 1 < W.heap.size := (Array.getElem?_eq_some_iff.1 hl).1
   have hy := run_yield (P := P) (args := encs x) hl (by rw [hrec]; exact hps x)
   rw [hrec] at hy
   refine ⟨fn, _, assign, body, hy, roundIn_of_wpIn hfn (hassign _ x W _ ⟨_, run_beginRound hl (by rw [hrec]), ?_⟩)⟩
   have hl2 : (W.putObj (w.heap.size + 1) (.loop { rec .ready none with state := .busy })).heap[w.heap.size + 1]? = some (.loop { rec .ready none with state := .busy }) := World.putObj_heap_same hlt
   have hk2 : (W.putObj (w.heap.size + 1) (.loop { rec .ready none with state := .busy })).heap[w.heap.size]? = some (.deferred (some [])) := (World.putObj_heap_other (by omega)).trans hk
   have t2 : Touch (fun b => b = w.heap.size + 1) W (W.putObj (w.heap.size + 1) (.loop { rec .ready none with state := .busy })) := touch_putObj _
   have z2 := t2.size
   refine wpIn_mono (hbody _ pre O x _ (hI _ _ _ _ _ _ hi t2 (fun b h => .inr (.inr h)) (fun b h => h) (fun b h => .inl h)) (fun b h => ⟨ho b h, Nat.lt_of_lt_of_le (hO b h).2 z2⟩) (Nat.le_trans (by omega) z2) hlen) ?_
   have fin : ∀ (jump : Option Code) (W3 : World) (X : Nat → Prop), Touch X (W.putObj (w.heap.size + 1) (.loop { rec .ready none with state := .busy })) W3 → (∀ b, X b → b ≠ w.heap.size ∧ b ≠ w.heap.size + 1) →
     (Instr.endRound (w.heap.size + 1) jump).run P W3 = .ok (.bool jump.isNone) (W3.putObj (w.heap.size + 1) (.loop (rec (if jump.isNone then .ready else .done) jump))) ∧
     W3.heap[w.heap.size + 1]? = some (.loop { rec .ready none with state := .busy }) ∧
     (W3.putObj (w.heap.size + 1) (.loop (rec (if jump.isNone then .ready else .done) jump))).heap[w.heap.size + 1]? = some (.loop (rec (if jump.isNone then .ready else .done) jump)) ∧
     (W3.putObj (w.heap.size + 1) (.loop (rec (if jump.isNone then .ready else .done) jump))).heap[w.heap.size]? = some (.deferred (some [])) := fun jump W3 X ht hX => by
    have hl3 := (ht.block _ (by omega) (fun c => (hX _ c).2 rfl)).trans hl2
    have hk3 := (ht.block _ (by omega) (fun c => (hX _ c).1 rfl)).trans hk2
    have := run_endRound (P := P) jump hl3
    rw [hrec] at this ⊢
    exact ⟨this, by rw [hrec] at hl3; exact hl3, World.putObj_heap_same (Array.getElem?_eq_some_iff.1 hl3).1, (World.putObj_heap_other (by omega)).trans hk3⟩
   have hout : ∀ (W3 : World) (o : Obj), Touch (fun b => b = w.heap.size + 1) W3 (W3.putObj (w.heap.size + 1) o) := fun W3 o => touch_putObj _
   have q : ∀ b, b = w.heap.size + 1 → ¬ R b ∧ ¬ O b := fun b e => ⟨fun c => by have := hR b c; omega, fun c => by have := ho b c; omega⟩
   have tt : ∀ (W3 : World) (o : Obj), Touch (fun b => ¬ R b ∧ ¬ O b ∧ b ≠ w.heap.size ∧ b ≠ w.heap.size + 1) (W.putObj (w.heap.size + 1) (.loop { rec .ready none with state := .busy })) W3 → Touch (fun b => ¬ R b ∧ ¬ O b) W (W3.putObj (w.heap.size + 1) o) := fun W3 o hk3 =>
    ((t2.mono (fun b _ h => q b h)).trans' (hk3.mono (fun b _ h => ⟨h.1, h.2.1⟩))).trans' ((hout _ _).mono (fun b _ h => q b h))
   rintro e a3 W3 hp
   cases e with
   | normal =>
    obtain ⟨hk3, hi3⟩ := hp
    obtain ⟨hr, hl3, hl4, hk4⟩ := fin none W3 _ hk3 (fun b h => h.2.2)
    exact ⟨_, _, hr, .inl ⟨rfl, ⟨hI _ _ _ _ _ _ hi3 (hout _ _) (fun b h => .inr (.inr h)) (fun b h => h) (fun b h => .inl h), hl4, hk4, ho⟩, tt _ _ hk3⟩⟩
   | ret =>
    obtain ⟨hk3, hi3⟩ := hp
    obtain ⟨hr, hl3, hl4, hk4⟩ := fin (some .ret) W3 _ hk3 (fun b h => h.2.2)
    exact ⟨_, _, hr, .inr ⟨rfl, ⟨.ret, hIx _ _ _ _ _ _ hi3 (hout _ _) (fun b h => .inr (.inr h)), hl4, hk4, ho⟩, tt _ _ hk3⟩⟩
   | exit id =>
    obtain ⟨hk3, hi3⟩ := hp
    obtain ⟨hr, hl3, hl4, hk4⟩ := fin (some (.exit id)) W3 _ hk3 (fun b h => h.2.2)
    exact ⟨_, _, hr, .inr ⟨rfl, ⟨.exit id, hIx _ _ _ _ _ _ hi3 (hout _ _) (fun b h => .inr (.inr h)), hl4, hk4, ho⟩, tt _ _ hk3⟩⟩
   | goto t =>
    obtain ⟨hk3, hi3⟩ := hp
    obtain ⟨hr, hl3, hl4, hk4⟩ := fin (some (.goto t)) W3 _ hk3 (fun b h => h.2.2)
    exact ⟨_, _, hr, .inr ⟨rfl, ⟨.goto t, hIx _ _ _ _ _ _ hi3 (hout _ _) (fun b h => .inr (.inr h)), hl4, hk4, ho⟩, tt _ _ hk3⟩⟩
   | panic ch => exact hp.elim
   | outgrown => exact hp.elim
  ·rintro e W2 ⟨⟨v, rfl⟩, (⟨xs, O, hS, hi, hl, hk, ho⟩ | ⟨pre, O, hSp, c, hi, hl, hk, ho⟩)⟩
   ·exact ⟨none, _, by have := run_endLoop (P := P) hl (by rw [hrec]; simp); rw [hrec] at this; exact this, hdone _ xs O _ (Nat.le_refl _) hS (hI _ _ _ _ _ _ hi (touch_putObj _) (fun b h => .inr (.inr h)) (fun b h => h) (fun b h => .inl h)) ((World.putObj_heap_other (by omega)).trans hk)⟩
   ·exact ⟨some c, _, by have := run_endLoop (P := P) hl (by rw [hrec]; simp); rw [hrec] at this; exact this, hstop _ c pre O _ (Nat.le_refl _) hSp (hIx _ _ _ _ _ _ hi (touch_putObj _) (fun b h => .inr (.inr h))) ((World.putObj_heap_other (by omega)).trans hk)⟩
end Go.Proofs.YtacankgalkffmaaGreat
