/-
  The chapter's examples.
-/
import Derived.Test.YtcmbmmpihiekhaaGreatTW
import Derived.Test.YtcmbmmpihiekhaaGreatTM
set_option maxRecDepth 100000
set_option maxHeartbeats 16000000
set_option linter.unusedSimpArgs false
set_option linter.unusedVariables false
namespace Go.Proofs.YtcmbmmpihiekhaaGreat
open Go.RowKit Go.Shelf

theorem Fastest_any (s : Strm) (A O D C : Option Addr) (n c no co nd cd nc cc : Nat) (bs : List Bnd) (l : List Wat) (ch : List Int) (w : World) (hss : SlAt w 0 5 Sec.cells A n c s.secs) (hs : SlAt w 0 2 Bnd.cells O no co bs) (hd : SlAt w 0 4 Wat.cells D nd cd l) (hcs : SlAt w 0 1 ivs C nc cc ch) :
    Calls Tryz.prog 5 #[.agg #[.int .i64 s.head, .slice A n c, .int .i64 s.lane.lo, .int .i64 s.lane.hi, .int .i64 s.bend], .slice O no co, .slice D nd cd, .slice C nc cc] w (RetFast (fastR s bs l ch) w) := by
  by_cases h1 : errBW s bs l = 0
  · obtain rfl := errBW_n h1 hss hs
    by_cases h3 : 1 ≤ l.length ∧ l.length ≤ 6 ∧ 1 ≤ ch.length ∧ ch.length ≤ 4
    · cases h4 : okSpeeds ch
      · exact Fastest_spd s A O D C _ c co nd cd nc cc bs l ch w hss hs hd hcs h1 h3 h4
      · exact Fastest_run s A O D C _ c co nd cd nc cc bs l ch w hss hs hd hcs h1 h3 h4
    · exact Fastest_lim s A O D C _ c co nd cd nc cc bs l ch w hss hs hd hcs h1 h3
  · exact Fastest_err s A O D C n c no co nd cd nc cc bs l ch w hss hs hd hcs h1
end Go.Proofs.YtcmbmmpihiekhaaGreat
