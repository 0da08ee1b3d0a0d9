/- Merged out of this seat's own texts. -/
import Derived.Test.YthcpbojmalgdbaaGreatDoorMlM
import Derived.Test.YthcpbojmalgdbaaGreatDoorMlS
set_option linter.unusedVariables false
set_option linter.unusedSimpArgs false
namespace Go.Proofs.YthcpbojmalgdbaaGreatDoor.Q
open Go.RowKit Go.Proofs.YthcpbojmalgdbaaGreatDoorW.PrintWords Go.Proofs.YthcpbojmalgdbaaGreatDoorW.PrintLast Go.Proofs.YthcpbojmalgdbaaGreatDoorW.PrintMore Go.Proofs.YthcpbojmalgdbaaGreatDoor.Core
theorem impl_bookOk_any (A0:Option Addr) (c0:Nat) (l0:List Cap) (A1:Option Addr) (c1:Nat) (l1:List Flight) (A2:Option Addr) (c2:Nat) (l2:List Int) (w:World)
  (hr0:Kd.C k80 w A0 l0.length l0) (hr1:Kd.C k45 w A1 l1.length l1) (hr2:Kd.C (Kd.int .i64) w A2 l2.length l2) :
  Calls Tryz.prog 69 #[.agg #[.slice A0 l0.length c0, .slice A1 l1.length c1, .slice A2 l2.length c2]] w fun e w'=>e = .returned (.bool (fitsB l0 l1 l2))∧Below w.heap.size w w':=by
 have hba:Below w.heap.size w (w.alloc (.cells #[.slice A0 l0.length c0, .slice A1 l1.length c1, .slice A2 l2.length c2] 33)):=(Below.refl _ _).alloc (Nat.le_refl _) _
 have QF:=Lib.hid (impl_fitsAll_any A0 c0 l0 A1 c1 l1 A2 c2 l2 _ (Kd.C_below hr0 hba) (Kd.C_below hr1 hba) (Kd.C_below hr2 hba))
 go_enter Tryz.func69,Tryz.ntmps69
 go_wp2_with (first | (go_at_call 105;refine QF.out.mono ?_;rintro e w1 ⟨rfl,hb1⟩) | go_in)
 go_ret
 exact ⟨rfl,below_next hba hba.size hb1⟩
theorem spec_bookOk_any (A0:Option Addr) (c0:Nat) (l0:List Cap) (A1:Option Addr) (c1:Nat) (l1:List Flight) (A2:Option Addr) (c2:Nat) (l2:List Int) (w:World)
  (hr0:Kd.C k80 w A0 l0.length l0) (hr1:Kd.C k45 w A1 l1.length l1) (hr2:Kd.C (Kd.int .i64) w A2 l2.length l2) :
  Calls Tryz.prog 46 #[.agg #[.slice A0 l0.length c0, .slice A1 l1.length c1, .slice A2 l2.length c2]] w fun e w'=>e = .returned (.bool (fitsB l0 l1 l2))∧Below w.heap.size w w':=by
 have hba:Below w.heap.size w (w.alloc (.cells #[.slice A0 l0.length c0, .slice A1 l1.length c1, .slice A2 l2.length c2] 33)):=(Below.refl _ _).alloc (Nat.le_refl _) _
 have QF:=Lib.hid (spec_fitsAll_any A0 c0 l0 A1 c1 l1 A2 c2 l2 _ (Kd.C_below hr0 hba) (Kd.C_below hr1 hba) (Kd.C_below hr2 hba))
 go_enter Tryz.func46,Tryz.ntmps46
 go_wp2_with (first | (go_at_call 88;refine QF.out.mono ?_;rintro e w1 ⟨rfl,hb1⟩) | go_in)
 go_ret
 exact ⟨rfl,below_next hba hba.size hb1⟩
end Go.Proofs.YthcpbojmalgdbaaGreatDoor.Q
