/- Least words in memory, the reference's: three rows; join. -/
import Derived.Test.YtejjaabkbkkjlaaLeast4
namespace Go.Proofs.Ytejjaabkbkkjlaa
set_option linter.unusedVariables false
open Go.RowKit
attribute [local irreducible] wpStill wpOne wpPh

/-- the reference's words: the struct b, the rows gl, gi, gm -/
structure RefWords (w : World) (F : Nat → Prop) (b gl gi gm : Nat) (S : List FoundD) : Prop where
  blk : Blk w b 92 #[.slice (some ⟨gl, 0, none⟩) S.length S.length, .slice (some ⟨gi, 0, none⟩) S.length S.length, .slice (some ⟨gm, 0, none⟩) S.length S.length]
  rowL : ∃ cells, Blk w gl 28 cells ∧ cells.size = S.length ∧ ∀ (i : Nat) (x : FoundD), S[i]? = some x → ∃ v, cells[i]? = some v ∧ RdI w F v x.l
  rowI : ∃ cells, Blk w gi 4 cells ∧ cells.size = S.length ∧ ∀ (i : Nat) (x : FoundD), S[i]? = some x → cells[i]? = some (.bool x.is)
  rowM : ∃ cells, Blk w gm 4 cells ∧ cells.size = S.length ∧ ∀ (i : Nat) (x : FoundD), S[i]? = some x → cells[i]? = some (.bool x.long)
  apart : gi ≠ gm
  lt : ∀ k, F k → k < w.heap.size
  far : ∀ k, F k → k ≠ gl ∧ k ≠ gi ∧ k ≠ gm
  lens : ∀ x ∈ S, x.l.length ≤ 4096
  size : S.length ≤ 65536
section
variable {w w' : World} {F : Nat → Prop} {b gl gi gm : Nat} {S : List FoundD}
theorem RefWords.below (h : RefWords w F b gl gi gm S) (hb : Below w.heap.size w w') : RefWords w' F b gl gi gm S := by
  obtain ⟨cL, hL, sL, eL⟩ := h.rowL
  obtain ⟨cI, hI, sI, eI⟩ := h.rowI
  obtain ⟨cM, hM, sM, eM⟩ := h.rowM
  exact ⟨h.blk.below hb h.blk.lt, ⟨cL, hL.below hb hL.lt, sL, fun i x hx => by
    obtain ⟨v, h1, h2⟩ := eL i x hx
    exact ⟨v, h1, h2.below hb h.lt⟩⟩, ⟨cI, hI.below hb hI.lt, sI, eI⟩, ⟨cM, hM.below hb hM.lt, sM, eM⟩, h.apart, fun k hk => Nat.lt_of_lt_of_le (h.lt k hk) hb.size, h.far, h.lens, h.size⟩
theorem RefWords.mono {F' : Nat → Prop} (h : RefWords w F b gl gi gm S) (hF : ∀ k, F k → F' k) (hl : ∀ k, F' k → k < w.heap.size) (hg : ∀ k, F' k → k ≠ gl ∧ k ≠ gi ∧ k ≠ gm) : RefWords w F' b gl gi gm S := by
  obtain ⟨cL, hL, sL, eL⟩ := h.rowL
  exact ⟨h.blk, ⟨cL, hL, sL, fun i x hx => by
    obtain ⟨v, h1, h2⟩ := eL i x hx
    exact ⟨v, h1, h2.mono hF⟩⟩, h.rowI, h.rowM, h.apart, hl, hg, h.lens, h.size⟩
theorem RefWords.at_ (h : RefWords w F b gl gi gm S) {k : Nat} (hk : k < S.length) : ∃ (x : FoundD) (A : Option Addr) (n c : Nat), S[k]? = some x ∧ w.cell? ⟨gi, k, none⟩ = some (.bool x.is) ∧ w.cell? ⟨gm, k, none⟩ = some (.bool x.long) ∧ w.cell? ⟨gl, k, none⟩ = some (.slice A n c) ∧ RdI w F (.slice A n c) x.l ∧ n = x.l.length ∧ n ≤ c ∧ c ≤ 9223372036854775807 ∧ n ≤ 4096 := by
  obtain ⟨cL, hL, sL, eL⟩ := h.rowL
  obtain ⟨cI, hI, sI, eI⟩ := h.rowI
  obtain ⟨cM, hM, sM, eM⟩ := h.rowM
  have hx : S[k]? = some S[k] := List.getElem?_eq_getElem hk
  obtain ⟨v, h3, h4⟩ := eL k _ hx
  obtain ⟨A, n, c, rfl, _⟩ := id h4
  obtain ⟨hn, hnc, hcm, -⟩ := RdI.at_ h4
  exact ⟨_, A, n, c, hx, (hI.cell _).trans (eI k _ hx), (hM.cell _).trans (eM k _ hx), (hL.cell _).trans h3, h4, hn, hnc, hcm, by rw [hn]; exact h.lens _ (List.getElem_mem hk)⟩
theorem RefWords.ptr (h : RefWords w F b gl gi gm S) : w.cell? ⟨b, 0, none⟩ = some (.slice (some ⟨gl, 0, none⟩) S.length S.length) ∧ w.cell? ⟨b, 1, none⟩ = some (.slice (some ⟨gi, 0, none⟩) S.length S.length) ∧ w.cell? ⟨b, 2, none⟩ = some (.slice (some ⟨gm, 0, none⟩) S.length S.length) := ⟨(h.blk.cell 0).trans rfl, (h.blk.cell 1).trans rfl, (h.blk.cell 2).trans rfl⟩
end

theorem wrap_in {n : Int} (h0 : -9223372036854775808 ≤ n) (h1 : n ≤ 9223372036854775807) : IntKind.i64.wrap n = n := by
  rw [IntKind.wrap_i64]; omega

def RefJoinPost (w : World) (x : FoundD) (e : Ending) (w' : World) : Prop := ∃ A n c, e = .returned (.tuple #[.slice A n c, .bool x.is, .bool x.long]) ∧ RdI w' (fun k => w.heap.size ≤ k ∧ k < w'.heap.size) (.slice A n c) x.l ∧ Below w.heap.size w w'
theorem RefJoinPost.no {w w' : World} {S : List FoundD} {l : List Int} {k : Nat} {s : Int} (hs : l[k]? = some s) (h : (lookW S s).is = false) (hb : Below w.heap.size w w') : RefJoinPost w (joinOf S l) (.returned (.tuple #[.slice none 0 0, .bool false, .bool false])) w' := by
  have : joinOf S l = noFound := by
    unfold joinOf
    rw [if_neg]
    rw [Bool.not_eq_true, List.all_eq_false]
    exact ⟨s, List.mem_of_getElem? hs, by simp [h]⟩
  rw [this]
  exact ⟨none, 0, 0, rfl, Rd.nil _ _ _, hb⟩

set_option maxRecDepth 100000 in
set_option maxHeartbeats 4000000 in
theorem ref_join {w : World} {F G : Nat → Prop} {b gl gi gm : Nat} {S : List FoundD} {v : Value} {l : List Int} (h : RefWords w F b gl gi gm S) (hl : RdI w G v l) (hG : ∀ k, G k → k < w.heap.size) (hT : ∀ k, (jTo S (l.take k)).2.length ≤ 4096) :
    Calls Try.prog 101 #[.pointer (some ⟨b, 0, none⟩), v] w (RefJoinPost w (joinOf S l)) := by
  obtain ⟨A, n, c, rfl, -⟩ := id hl
  obtain ⟨hn, hnc, hcm, -⟩ := RdI.at_ hl
  unfold maxLen at hcm
  have own0 : w.ownsRow w.heap.size 3 1 (.slice none 0 0) 0 [] := World.ownsRow_nil _ _ _ _
  have Xhn := hide hn
  have Xh := hide h
  have Xhl := hide hl
  have XhG := hide hG
  have XhT := hide hT
  have Xown0 := hide own0
  clear hn h hl hG hT own0
  go_enter Try.func101, Try.ntmps101
  go_wp2_with fail
  go_loopw [7, 8, 9] (fun o lg i wr => ∃ (k : Nat) (B : Option Addr) (m d : Nat), k ≤ n ∧ i = .int .i64 k ∧ o = .slice B m d ∧ lg = .bool (jTo S (l.take k)).1 ∧ m = (jTo S (l.take k)).2.length ∧ (∀ (j : Nat) (s : Int), j < k → l[j]? = some s → (lookW S s).is = true) ∧ wr.ownsRow w.heap.size 3 1 (.slice B m d) m ((jTo S (l.take k)).2.map I64) ∧ Below w.heap.size w wr) (fun _ _ i _ => n - (intOf i).toNat)
  case atStart => exact ⟨0, none, 0, 0, Nat.zero_le _, rfl, rfl, rfl, rfl, fun j s hj => absurd hj (by omega), Xown0.out, Below.refl _ _⟩
  case round =>
    clear Xown0
    obtain ⟨k, B, m, d, hk, rfl, rfl, rfl, hm, hall, own, hb⟩ := hrel
    obtain ⟨p, hp⟩ : ∃ p, p = jTo S (l.take k) := ⟨_, rfl⟩
    rw [← hp] at hm own ⊢
    have hpl : p.2.length ≤ 4096 := by rw [hp]; exact XhT.out k
    have hml : m ≤ 4096 := by omega
    by_cases hlt : k < n
    · have hw := Xh.out.below hb
      have hlr := Xhl.out.below hb XhG.out
      obtain ⟨-, -, -, hcell⟩ := RdI.at_ hlr
      obtain ⟨bl, off, rfl, hbl, hcc⟩ := hcell (by omega)
      obtain ⟨s, hs⟩ : ∃ s, l[k]? = some s := ⟨_, List.getElem?_eq_getElem (by rw [← Xhn.out]; exact hlt)⟩
      have hcs := hcc k s hs
      have hnext := jTo_next (S := S) hs
      rw [← hp] at hnext
      obtain ⟨hp0, hp1, hp2⟩ := hw.ptr
      have hsz := hw.size
      have hlt' : (k : Int) < (n : Int) := by omega
      by_cases hs0 : s < 0
      · have hfin := fun w' => RefJoinPost.no (w := w) (w' := w') (S := S) hs (by rw [lookW_neg hs0]; rfl)
        have Xhfin := hide hfin
        have Xhall := hide hall
        have Xhm := hide hm
        have Xhp := hide hp
        have Xown := hide own
        have Xhb := hide hb
        have Xhw := hide hw
        have Xhlr := hide hlr
        have Xhs := hide hs
        have Xhnext := hide hnext
        clear hfin hall hm hp own hb hw hlr hs hnext
        clear hcell hcc
        go_wp2_with fail
        refine region_reads (by kernel_rfl) (by kernel_rfl) ?_
        repeat still_step
        refine wpStill_nil ?_
        go_wp2_with fail
        go_ret3
        exact Xhfin.out _ (Xhb.out.drew)
      · by_cases hs1 : (S.length : Int) ≤ s
        · have hfin := fun w' => RefJoinPost.no (w := w) (w' := w') (S := S) hs (by rw [lookW_big hs1]; rfl)
          have Xhfin := hide hfin
          have Xhall := hide hall
          have Xhm := hide hm
          have Xhp := hide hp
          have Xown := hide own
          have Xhb := hide hb
          have Xhw := hide hw
          have Xhlr := hide hlr
          have Xhs := hide hs
          have Xhnext := hide hnext
          clear hfin hall hm hp own hb hw hlr hs hnext
          clear hcell hcc
          go_wp2_with fail
          refine region_reads (by kernel_rfl) (by kernel_rfl) ?_
          repeat still_step
          refine wpStill_nil ?_
          go_wp2_with fail
          go_ret3
          exact Xhfin.out _ (Xhb.out.drew)
        · obtain ⟨sn, rfl⟩ := Int.eq_ofNat_of_zero_le (by omega : 0 ≤ s)
          have hsn : sn < S.length := by omega
          have hs1' : (sn : Int) < (S.length : Int) := by omega
          obtain ⟨x, Ax, nx, cx, hx, e0, e1, e2, hxr, hnx, hnxc, hcx, hnx4⟩ := hw.at_ hsn
          have hlk := lookW_nat hx
          cases hxi : x.is with
          | false =>
            rw [hxi] at e0
            have hfin := fun w' => RefJoinPost.no (w := w) (w' := w') (S := S) hs (by rw [hlk]; exact hxi)
            have Xhfin := hide hfin
            have Xhall := hide hall
            have Xhm := hide hm
            have Xhp := hide hp
            have Xown := hide own
            have Xhb := hide hb
            have Xhw := hide hw
            have Xhlr := hide hlr
            have Xhs := hide hs
            have Xhnext := hide hnext
            have Xhx := hide hx
            have Xhxr := hide hxr
            have Xhnx := hide hnx
            have Xhlk := hide hlk
            have Xhxi := hide hxi
            clear hfin hall hm hp own hb hw hlr hs hnext hx hxr hnx hlk hxi
            clear hcell hcc
            go_wp2_with fail
            refine region_reads (by kernel_rfl) (by kernel_rfl) ?_
            repeat still_step
            refine wpStill_nil ?_
            go_wp2_with fail
            go_ret3
            exact Xhfin.out _ (Xhb.out.drew)
          | true =>
            rw [hxi] at e0
            have hstep : jStep S p (sn : Int) = (p.1 || (x.long || decide (4096 < m + nx)), if (p.1 || (x.long || decide (4096 < m + nx))) = true then p.2 else p.2 ++ x.l) := by
              unfold jStep; rw [hlk, hm, hnx]
            rw [hstep] at hnext
            have hall2 : ∀ (j : Nat) (s : Int), j < k + 1 → l[j]? = some s → (lookW S s).is = true := fun j s' hj hs' => by
              by_cases e : j = k
              · subst e; rw [hs] at hs'; injection hs' with hs'; rw [← hs', hlk]; exact hxi
              · exact hall j s' (by omega) hs'
            have hwrap : IntKind.i64.wrap ((m : Int) + (nx : Int)) = (m : Int) + (nx : Int) := wrap_in (by omega) (by omega)
            cases hxl : x.long with
            | true =>
              have hj : jTo S (l.take (k + 1)) = (true, p.2) := by rw [hnext, hxl]; simp
              rw [hxl] at e1
              have Xhall := hide hall
              have Xhall2 := hide hall2
              have Xhm := hide hm
              have Xhp := hide hp
              have Xown := hide own
              have Xhb := hide hb
              have Xhw := hide hw
              have Xhlr := hide hlr
              have Xhs := hide hs
              have Xhnext := hide hnext
              have Xhx := hide hx
              have Xhxr := hide hxr
              have Xhnx := hide hnx
              have Xhlk := hide hlk
              have Xhxi := hide hxi
              have Xhxl := hide hxl
              have Xhj := hide hj
              have Xhstep := hide hstep
              clear hall hall2 hm hp own hb hw hlr hs hnext hx hxr hnx hlk hxi hxl hj hstep
              clear hcell hcc
              go_wp2_with fail
              refine region_reads (by kernel_rfl) (by kernel_rfl) ?_
              repeat still_step
              refine wpStill_nil ?_
              go_wp2_with fail
              refine region_reads (by kernel_rfl) (by kernel_rfl) ?_
              repeat still_step
              refine wpStill_nil ?_
              go_wp2_with fail
              go_roundw
              case rel => exact ⟨k + 1, B, m, d, by omega, by go_num, rfl, by rw [Xhj.out], by rw [Xhj.out]; exact Xhm.out, Xhall2.out, by rw [Xhj.out]; exact Xown.out, Xhb.out.drew.drew⟩
              case measure => simp [intOf]; omega
            | false =>
              rw [hxl] at e1
              by_cases hbig : 4096 < m + nx
              · have hbig' : (4096 : Int) < (m : Int) + (nx : Int) := by omega
                have hj : jTo S (l.take (k + 1)) = (true, p.2) := by rw [hnext, decide_eq_true hbig]; simp
                have Xhall := hide hall
                have Xhall2 := hide hall2
                have Xhm := hide hm
                have Xhp := hide hp
                have Xown := hide own
                have Xhb := hide hb
                have Xhw := hide hw
                have Xhlr := hide hlr
                have Xhs := hide hs
                have Xhnext := hide hnext
                have Xhx := hide hx
                have Xhxr := hide hxr
                have Xhnx := hide hnx
                have Xhlk := hide hlk
                have Xhxi := hide hxi
                have Xhxl := hide hxl
                have Xhj := hide hj
                have Xhstep := hide hstep
                clear hall hall2 hm hp own hb hw hlr hs hnext hx hxr hnx hlk hxi hxl hj hstep
                clear hcell hcc
                go_wp2_with fail
                refine region_reads (by kernel_rfl) (by kernel_rfl) ?_
                repeat still_step
                refine wpStill_nil ?_
                go_wp2_with fail
                refine region_reads (by kernel_rfl) (by kernel_rfl) ?_
                repeat still_step
                refine wpStill_nil ?_
                go_wp2_with fail
                go_roundw
                case rel => exact ⟨k + 1, B, m, d, by omega, by go_num, rfl, by rw [Xhj.out], by rw [Xhj.out]; exact Xhm.out, Xhall2.out, by rw [Xhj.out]; exact Xown.out, Xhb.out.drew.drew⟩
                case measure => simp [intOf]; omega
              · have hbig' : ¬ (4096 : Int) < (m : Int) + (nx : Int) := by omega
                cases hp1v : p.1 with
                | true =>
                  have hj : jTo S (l.take (k + 1)) = (true, p.2) := by rw [hnext, hp1v]; simp
                  have Xhall := hide hall
                  have Xhall2 := hide hall2
                  have Xhm := hide hm
                  have Xhp := hide hp
                  have Xown := hide own
                  have Xhb := hide hb
                  have Xhw := hide hw
                  have Xhlr := hide hlr
                  have Xhs := hide hs
                  have Xhnext := hide hnext
                  have Xhx := hide hx
                  have Xhxr := hide hxr
                  have Xhnx := hide hnx
                  have Xhlk := hide hlk
                  have Xhxi := hide hxi
                  have Xhxl := hide hxl
                  have Xhj := hide hj
                  have Xhstep := hide hstep
                  have Xhp1v := hide hp1v
                  clear hall hall2 hm hp own hb hw hlr hs hnext hx hxr hnx hlk hxi hxl hj hstep hp1v
                  clear hcell hcc
                  go_wp2_with fail
                  refine region_reads (by kernel_rfl) (by kernel_rfl) ?_
                  repeat still_step
                  refine wpStill_nil ?_
                  go_wp2_with fail
                  refine region_reads (by kernel_rfl) (by kernel_rfl) ?_
                  repeat still_step
                  refine wpStill_nil ?_
                  go_wp2_with fail
                  go_roundw
                  case rel => exact ⟨k + 1, B, m, d, by omega, by go_num, rfl, by rw [Xhj.out], by rw [Xhj.out]; exact Xhm.out, Xhall2.out, by rw [Xhj.out]; exact Xown.out, Xhb.out.drew.drew⟩
                  case measure => simp [intOf]; omega
                | false =>
                  have hj : jTo S (l.take (k + 1)) = (false, p.2 ++ x.l) := by rw [hnext, hp1v, hxl, decide_eq_false hbig]; simp
                  have hxln : (x.l.map I64).length = nx * 1 := by simp; exact hnx.symm
                  have hones : ∀ u ∈ x.l.map I64, u.oneCell' = true := fun u hu => by obtain ⟨y, _, rfl⟩ := List.mem_map.1 hu; rfl
                  have hbz := hb.size
                  have Xhall := hide hall
                  have Xhall2 := hide hall2
                  have Xhm := hide hm
                  have Xhp := hide hp
                  have Xown := hide own
                  have Xhb := hide hb
                  have Xhw := hide hw
                  have Xhlr := hide hlr
                  have Xhs := hide hs
                  have Xhnext := hide hnext
                  have Xhx := hide hx
                  have Xhxr := hide hxr
                  have Xhnx := hide hnx
                  have Xhlk := hide hlk
                  have Xhxi := hide hxi
                  have Xhxl := hide hxl
                  have Xhj := hide hj
                  have Xhstep := hide hstep
                  have Xhp1v := hide hp1v
                  have Xhxln := hide hxln
                  have Xhones := hide hones
                  clear hall hall2 hm hp own hb hw hlr hs hnext hx hxr hnx hlk hxi hxl hj hstep hp1v hxln hones
                  clear hcell hcc
                  go_wp2_with fail
                  refine region_reads (by kernel_rfl) (by kernel_rfl) ?_
                  repeat still_step
                  refine wpStill_nil ?_
                  go_wp2_with fail
                  refine region_reads (by kernel_rfl) (by kernel_rfl) ?_
                  repeat still_step
                  refine wpStill_nil ?_
                  go_wp2_with fail
                  refine region_tail 11 (by kernel_rfl) (by kernel_rfl) ?_
                  simp only [List.take_succ_cons, List.take_zero, List.drop_succ_cons, List.drop_zero]
                  repeat still_step
                  refine wpStill_nil ?_
                  go_wp2_with (at_builtin; refine wp_append _ rfl (.tmp 75) (.tmp 85) _ rfl Try.elemInt w.heap.size _ m (p.2.map I64) rfl Xown.out F _ (x.l.map I64) nx rfl Xhxln.out Xhxr.out Xhones.out (by unfold maxLen; omega) (by omega) hbz ?_)
                  intro A' c' w6 hown6 hg6 _
                  go_wp2_with fail
                  go_roundw
                  case rel => exact ⟨k + 1, A', m + nx, c', by omega, by go_num, rfl, by rw [Xhj.out], by rw [Xhj.out]; simp only [List.length_append]; have := Xhm.out; have := Xhnx.out; omega, Xhall2.out, by rw [Xhj.out]; simp only [List.map_append]; exact hown6, (Xhb.out.drew.drew.drew).grown hg6 hbz (fun q hq => (Xown.out.lt q hq).1)⟩
                  case measure => simp [intOf]; omega
    · have hkn : k = l.length := by have := Xhn.out; omega
      have hjo := joinOf_yes (S := S) (l := l) (fun j s hs => hall j s (by have := (List.getElem?_eq_some_iff.1 hs).1; omega) hs)
      have hpe : jTo S l = p := by rw [hp, hkn, List.take_length]
      rw [hpe] at hjo
      have hrd : RdI wr (fun q => w.heap.size ≤ q ∧ q < wr.heap.size) (.slice B m d) p.2 := (Rd.of_own own).mono (fun q hq => own.lt q hq)
      have hlt' : ¬ (k : Int) < (n : Int) := by omega
      cases hp1 : p.1 with
      | true =>
        have Xhall := hide hall
        have Xhm := hide hm
        have Xhp := hide hp
        have Xown := hide own
        have Xhb := hide hb
        have Xhjo := hide hjo
        have Xhpe := hide hpe
        have Xhrd := hide hrd
        have Xhp1 := hide hp1
        have Xhkn := hide hkn
        clear hall hm hp own hb hjo hpe hrd hp1 hkn
        go_wp2_with fail
        go_ret3
        exact ⟨none, 0, 0, by rw [Xhjo.out, Xhp1.out]; rfl, by rw [Xhjo.out, Xhp1.out]; exact Rd.nil _ _ _, Xhb.out⟩
      | false =>
        have Xhall := hide hall
        have Xhm := hide hm
        have Xhp := hide hp
        have Xown := hide own
        have Xhb := hide hb
        have Xhjo := hide hjo
        have Xhpe := hide hpe
        have Xhrd := hide hrd
        have Xhp1 := hide hp1
        have Xhkn := hide hkn
        clear hall hm hp own hb hjo hpe hrd hp1 hkn
        go_wp2_with fail
        go_ret3
        exact ⟨B, m, d, by rw [Xhjo.out, Xhp1.out]; rfl, by rw [Xhjo.out, Xhp1.out]; exact Xhrd.out, Xhb.out⟩
end Go.Proofs.Ytejjaabkbkkjlaa
