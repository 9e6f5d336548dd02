/- The walks of layer 4's statements. -/
import Derived.Test.YtighpdnodehdcaaInternRef
namespace Go.Proofs.Ytighpdnodehdcaa
open Go.RowKit

theorem walk_InternNone (s : ByteArray) (i : Int) (w : World) (hs : s.size ≤ maxLen) (_ : (Lit.int .i64 i).wf = true) :
    Calls Try.prog 5 #[.string s, .int .i64 i] w fun e w' => e = .returned (.bool true) ∧ Below w.heap.size w w' := by
  unfold maxLen at hs
  by_cases h : 1000 < s.size
  · have h' : (1000 : Int) < s.size := by omega
    clear h
    go_enter Try.func5, Try.ntmps5
    go_wp2_with (go_at_call 9; refine (intern_awake _).mono ?_; rintro e w' ⟨rfl, hb⟩)
    go_ret
    exact ⟨rfl, hb⟩
  · have h' : ¬ (1000 : Int) < s.size := by omega
    clear h
    go_enter Try.func5, Try.ntmps5
    go_wp2_with (first
      | (go_at_call 11; refine (names_put_nil s _).mono ?_; rintro e w' ⟨rfl, rfl⟩)
      | (go_at_call 12; refine (names_text_nil i _).mono ?_; rintro e w' ⟨rfl, rfl⟩)
      | (go_at_call 13; refine (names_find_nil s _).mono ?_; rintro e w' ⟨rfl, rfl⟩)
      | (go_at_call 16; refine (names_len_nil _).mono ?_; rintro e w' ⟨rfl, rfl⟩)
      | (go_at_call 19; refine (names_all_nil _).mono ?_; rintro e w' ⟨rfl, rfl⟩)
      | (go_at_call 9; refine (intern_awake _).mono ?_; rintro e w' ⟨rfl, hb⟩))
    go_ret
    exact ⟨rfl, hb⟩
end Go.Proofs.Ytighpdnodehdcaa
