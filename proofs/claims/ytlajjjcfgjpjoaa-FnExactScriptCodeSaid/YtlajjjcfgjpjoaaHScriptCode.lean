/- The program's ScriptCode, walked by hand: an array of texts, and one of them. No claim by itself. -/
import Derived.Test.YtlajjjcfgjpjoaaX0
import Derived.Test.YtlajjjcfgjpjoaaXf69
import Derived.WalkLawsBesides
namespace Go.Proofs.Ytlajjjcfgjpjoaa.X
open Go.RowKit Go.Proofs.YtlajjjcfgjpjoaaW.PrintWords Go.Proofs.YtlajjjcfgjpjoaaW.PrintLast Go.Proofs.YtlajjjcfgjpjoaaW.PrintMore
set_option linter.unusedVariables false
def impl_ScriptCode.tab : Nat → ByteArray
  | 0 => ⟨#[111, 107]⟩ | 1 => ⟨#[115, 104, 111, 114, 116]⟩ | 2 => ⟨#[115, 105, 122, 101]⟩ | 3 => ⟨#[107, 105, 110, 100]⟩ | 4 => ⟨#[112, 97, 116, 104]⟩ | 5 => ⟨#[108, 97, 98, 101, 108]⟩ | 6 => ⟨#[114, 97, 110, 103, 101]⟩ | 7 => ⟨#[108, 101, 102, 116]⟩ | _ => ⟨#[]⟩
def impl_ScriptCode.f (a0 : Int) : Option ByteArray := if 0 ≤ a0 ∧ a0 ≤ 7 then some (impl_ScriptCode.tab a0.toNat) else some ⟨#[]⟩
set_option maxHeartbeats 1600000 in
theorem impl_ScriptCode.calls (a0 : Int) (r : ByteArray) (w : World) (h : impl_ScriptCode.f a0 = some r) :
    Calls Try.prog 18 #[.int .i64 a0] w fun e w' => e = .returned (.string r) ∧ Below w.heap.size w w' := by
  by_cases c : 0 ≤ a0 ∧ a0 ≤ 7
  · have c8 : a0 = 0 ∨ a0 = 1 ∨ a0 = 2 ∨ a0 = 3 ∨ a0 = 4 ∨ a0 = 5 ∨ a0 = 6 ∨ a0 = 7 := by omega
    rw [impl_ScriptCode.f, if_pos c] at h
    clear c
    obtain rfl := Option.some.inj h
    clear h
    rcases c8 with rfl | rfl | rfl | rfl | rfl | rfl | rfl | rfl
    all_goals
      go_enter Try.func18, Try.ntmps18
      go_wp2_with (go_at_call 69; refine (impl_within.calls _ 0 7 true _ (by decide)).mono ?_; rintro e w' ⟨rfl, ⟨n, rfl⟩⟩)
      go_ret
      exact ⟨rfl, pw_below_drewN ((Below.refl _ _).alloc (Nat.le_refl _) _) _⟩
  · rw [impl_ScriptCode.f, if_neg c] at h
    obtain rfl := Option.some.inj h
    clear h
    have hw : impl_within.f a0 0 7 = some false := by
      unfold impl_within.f
      by_cases c1 : 0 ≤ a0
      · rw [if_pos c1]; simp; omega
      · rw [if_neg c1]
    have HW := Aside0.mk hw
    clear hw c
    go_enter Try.func18, Try.ntmps18
    go_wp2_with (go_at_call 69; refine (impl_within.calls a0 0 7 false _ HW.out).mono ?_; rintro e w' ⟨rfl, ⟨n, rfl⟩⟩)
    go_ret
    exact ⟨rfl, pw_below_drewN ((Below.refl _ _).alloc (Nat.le_refl _) _) _⟩
end Go.Proofs.Ytlajjjcfgjpjoaa.X
