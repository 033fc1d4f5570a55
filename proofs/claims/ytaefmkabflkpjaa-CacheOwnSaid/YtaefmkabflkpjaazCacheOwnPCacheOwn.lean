/- CacheOwn: the law. -/
import Derived.Test.YtaefmkabflkpjaazCacheOwnPOwnA
import Derived.Test.YtaefmkabflkpjaazCacheOwnPOwnB
namespace Go.Proofs.Ytaefmkabflkpjaa.cacheOwn
open Go Go.Proofs Go.Proofs.YtaefmkabflkpjaaRL
set_option linter.unusedVariables false
set_option linter.unusedSimpArgs false
theorem formula0 (p : Option Addr) (cap : Nat) (h : Nat → Int) (m cap2 : Nat) : lawI Try.prog noD 100 4 [.raw (.slice p 0 cap), .sle 1 1 0 m cap2] [.no, .arr .ro [.int .u32 h] m 0] =
    (match decide ((m : Int) > 1000) with
    | true => true
    | false => true) := by kernel_rfl
theorem formula00 (p : Option Addr) (cap : Nat) (p2 : Option Addr) (cap2 : Nat) : lawI Try.prog noD 100 4 [.raw (.slice p 0 cap), .raw (.slice p2 0 cap2)] [.no, .no] = true := by kernel_rfl
def aks : List AS := [.sl [.int .u32], .sl [.int .u32]]
theorem law_call : ∀ args s, argsOkS 0 aks args s → CallOk Try.prog 4 args s fun r _ => r = .ret (.raw (.bool true)) := law_viaA fun args s h => by
  rcases argsOkA_sl h with ⟨p, cap, vs, s', rfl, rfl, h2⟩ | ⟨n, cap, cols, vs, s', hn, rfl, rfl, hcap, hmx, hc, h2⟩
  · rcases argsOkA_sl h2 with ⟨p2, cap2, vs, s', rfl, rfl, h3⟩ | ⟨m, cap2, cols, vs, s', hm, rfl, rfl, hcap, hmx, hc, h3⟩
    · obtain ⟨rfl, rfl⟩ := argsOkA_nil h3
      exact lawI_sound noD_ok names mixed (n := 100) (formula00 p cap p2 cap2)
    · obtain ⟨rfl, rfl⟩ := argsOkA_nil h3
      obtain ⟨g, cs, rfl, hg, hc⟩ := colsOkA_int hc
      cases colsOkA_nil hc
      refine lawI_sound noD_ok names mixed (n := 100) ?_
      refine Eq.trans (formula0 p cap g m cap2) ?_
      cases decide ((m : Int) > 1000) <;> rfl
  · obtain ⟨g, cs, rfl, hg, hc⟩ := colsOkA_int hc
    cases colsOkA_nil hc
    obtain ⟨q, rfl⟩ : ∃ q, n = q + 1 := ⟨n - 1, by omega⟩
    rcases argsOkA_sl h2 with ⟨p2, cap2, vs, s', rfl, rfl, h3⟩ | ⟨m, cap2, cols, vs, s', hm, rfl, rfl, hcap, hmx, hc, h3⟩
    · obtain ⟨rfl, rfl⟩ := argsOkA_nil h3
      exact cacheOwnB.law_sl g q cap p2 cap2
    · obtain ⟨rfl, rfl⟩ := argsOkA_nil h3
      obtain ⟨h0, cs, rfl, _, hc⟩ := colsOkA_int hc
      cases colsOkA_nil hc
      exact cacheOwnA.law_sl g q cap h0 m cap2
end Go.Proofs.Ytaefmkabflkpjaa.cacheOwn
