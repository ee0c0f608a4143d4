/- keep.WordBack answers true, whatever it is given. Conditions: the table of forms lies as the program lays it. -/
import Derived.Test.YtgeajgdddjjjnaaDoorWordBackA
import Derived.Test.YtgeajgdddjjjnaaDoorWordBackB
namespace Go.Proofs.YtgeajgdddjjjnaaDoor.WordP
set_option linter.unusedVariables false
set_option linter.unusedSimpArgs false
open Go.RowKit
theorem wordBack_walk (x y : Ins) (w : Int) (W : World) (hx : 0 ≤ w ∧ w < 4294967296) (hF : Forms W) :
    Calls Tryd.prog 3 #[x.val, y.val, .int .u32 w] W fun e W' => e = .returned (.bool true) ∧ Grown W W' := by
  rcases hd : dec w with _ | z <;> rcases hr : x.right with _ | _ <;> rcases hs : y.right with _ | _
  · exact wb_none_no_no x y w W hx hF hd hr hs
  · exact wb_none_no_yes x y w W hx hF hd hr hs
  · exact wb_none_yes_no x y w W hx hF hd hr hs
  · by_cases h : x = y
    · subst h; exact wb_none_yes_yeseq x w W hx hF hd hr
    · exact wb_none_yes_yesne x y w W hx hF hd hr hs h
  · exact wb_some_no_no x y w W hx hF z hd hr hs
  · exact wb_some_no_yes x y w W hx hF z hd hr hs
  · exact wb_some_yes_no x y w W hx hF z hd hr hs
  · by_cases h : x = y
    · subst h; exact wb_some_yes_yeseq x w W hx hF z hd hr
    · exact wb_some_yes_yesne x y w W hx hF z hd hr hs h
end Go.Proofs.YtgeajgdddjjjnaaDoor.WordP
