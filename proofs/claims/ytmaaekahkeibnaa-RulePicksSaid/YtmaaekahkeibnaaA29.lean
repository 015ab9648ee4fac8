/- RulePicks: the cases together. -/
import Derived.Test.YtmaaekahkeibnaaA24
import Derived.Test.YtmaaekahkeibnaaA25
import Derived.Test.YtmaaekahkeibnaaA26
import Derived.Test.YtmaaekahkeibnaaA27
import Derived.Test.YtmaaekahkeibnaaA28
namespace Go.Proofs.Ytmaaekahkeibnaa
open Go.RowKit

theorem picks3 (A : Option Addr) (c : Nat) (l : List Ver) (id now untl fr tt : Int) (w : World) (hA : Rd w A (fl l)) (hg : ∀ v ∈ l, v.good w) :
    Calls Try.prog 3 #[.slice A l.length c, .int .i64 id, .int .i64 now, .int .i64 untl, .int .i64 fr, .int .i64 tt] w fun e w' => e = .returned (.bool true) ∧ Below w.heap.size w w' := by
  by_cases hr : Right l
  · rcases pk_find l id with ⟨hp, hf⟩ | ⟨k, hk, hf, hp⟩
    · cases l with
      | nil => exact picks3_none_nil A c id now untl fr tt w hA hg hr hp hf
      | cons z t =>
        cases hm : z.mark
        · exact picks3_none_live A c z t id now untl fr tt w hA hg hr hm hp hf
        · exact picks3_none_mark A c z t id now untl fr tt w hA hg hr hm hp hf
    · cases l with
      | nil => exact absurd hk (by simp)
      | cons z t =>
        cases hm : z.mark
        · exact picks3_some_live A c z t id now untl fr tt w hA hg hr hm k hk hf hp
        · exact picks3_some_mark A c z t id now untl fr tt w hA hg hr hm k hk hf hp
  · exact picks3_out A c l id now untl fr tt w hA hr

end Go.Proofs.Ytmaaekahkeibnaa
