/- Merged out of this seat's own texts. -/
import Derived.Test.YthcpbojmalgdbaaGreatDoorMlQ
import Derived.Test.YthcpbojmalgdbaaGreatDoorMlD
set_option linter.unusedVariables false
set_option linter.unusedSimpArgs false
namespace Go.Proofs.YthcpbojmalgdbaaGreatDoor.Q
open Go.RowKit Go.Proofs.YthcpbojmalgdbaaGreatDoorW.PrintWords Go.Proofs.YthcpbojmalgdbaaGreatDoorW.PrintLast Go.Proofs.YthcpbojmalgdbaaGreatDoorW.PrintMore Go.Proofs.YthcpbojmalgdbaaGreatDoor.Core
theorem OwnB.form_D {w:World} {base n0 n1 n2 c0 c1 c2:Nat} {A0 A1 A2:Option Addr} {b:Book} (h:OwnB w base (.slice A0 n0 c0) (.slice A1 n1 c1) (.slice A2 n2 c2) b):Kd.C k80 w A0 b.f0.length b.f0∧Kd.C k45 w A1 b.f1.length b.f1∧Kd.C (Kd.int .i64) w A2 b.f2.length b.f2 :=
 ⟨(Kd.R_reads' h.caps).2.2,(Kd.R_reads' (Kd.S_R h.flights)).2.2,(Kd.R_reads' h.slots).2.2⟩
structure BoxB (w:World) (base B:Nat) (v0 v1 v2:Value) (b:Book):Prop where
 box:w.heap[B]? = some (.cells #[v0,v1,v2] 33 (0,0))
 book:OwnB w base v0 v1 v2 b
structure BoxF (w:World) (B:Nat) (f:Flight) (A:Option Addr) (c:Nat):Prop where
 box:w.heap[B]? = some (.cells #[.string f.f0, .int .i64 f.f1, .int .i64 f.f2, .slice A f.f3.length c] 45 (0,0))
 vis:Kd.C k52 w A f.f3.length f.f3
section
variable {w w1:World} {base B:Nat} {v0 v1 v2:Value} {b:Book} {f:Flight} {A:Option Addr} {c:Nat}
theorem BoxB.below (h:BoxB w base B v0 v1 v2 b) (hb:Below w.heap.size w w1):BoxB w1 base B v0 v1 v2 b:=⟨blk_below h.box hb,h.book.below hb⟩
theorem BoxB.cells (h:BoxB w base B v0 v1 v2 b):w.cell? ⟨B,0,none⟩=some v0∧w.cell? ⟨B,1,none⟩=some v1∧w.cell? ⟨B,2,none⟩=some v2:=⟨(blk_cell h.box 0).trans rfl,(blk_cell h.box 1).trans rfl,(blk_cell h.box 2).trans rfl⟩
theorem BoxF.below (h:BoxF w B f A c) (hb:Below w.heap.size w w1):BoxF w1 B f A c:=⟨blk_below h.box hb,Kd.C_below h.vis hb⟩
theorem BoxF.cells (h:BoxF w B f A c):w.cell? ⟨B,0,none⟩=some (.string f.f0)∧w.cell? ⟨B,1,none⟩=some (.int .i64 f.f1)∧w.cell? ⟨B,2,none⟩=some (.int .i64 f.f2)∧w.cell? ⟨B,3,none⟩=some (.slice A f.f3.length c) :=
 ⟨(blk_cell h.box 0).trans rfl,(blk_cell h.box 1).trans rfl,(blk_cell h.box 2).trans rfl,(blk_cell h.box 3).trans rfl⟩
theorem OwnB.drewN (h:OwnB w base v0 v1 v2 b) (m:Nat):OwnB (w.drewN m) base v0 v1 v2 b:=h.below (pw_below_drewN (Below.refl _ _) m)
theorem BoxB.drewN (h:BoxB w base B v0 v1 v2 b) (m:Nat):BoxB (w.drewN m) base B v0 v1 v2 b:=h.below (pw_below_drewN (Below.refl _ _) m)
theorem BoxB.put {u0 u1 u2:Value} {c:Book} (h:BoxB w base B v0 v1 v2 b) (h':OwnB w base u0 u1 u2 c):BoxB (((w.setCell ⟨B,0,none⟩ u0).setCell ⟨B,1,none⟩ u1).setCell ⟨B,2,none⟩ u2) base B u0 u1 u2 c:=by
 have c1:=blk_set h.box 0 u0
 have c2:=blk_set c1 1 u1
 exact ⟨blk_set c2 2 u2,(((h'.cell h.box 0 u0).cell c1 1 u1).cell c2 2 u2)⟩
theorem Rdr.put {w0:World} {g:Nat} {bs:List Int} {p:Int} (h:Rdr w0 w g bs p) (hne:g≠B) (hB:w0.heap.size≤B) (u0 u1 u2:Value):Rdr w0 (((w.setCell ⟨B,0,none⟩ u0).setCell ⟨B,1,none⟩ u1).setCell ⟨B,2,none⟩ u2) g bs p :=
 ((h.far (q:=⟨B,0,none⟩) hne hB u0).far (q:=⟨B,1,none⟩) hne hB u1).far (q:=⟨B,2,none⟩) hne hB u2
theorem BoxB.made (h:OwnB w base v0 v1 v2 b):BoxB (w.alloc (.cells #[v0,v1,v2] 33)) base w.heap.size v0 v1 v2 b:=⟨blk_new _ _,h.below (below_alloc (Below.refl _ _) _)⟩
theorem BoxF.made (h:Kd.C k52 w A f.f3.length f.f3):BoxF (w.alloc (.cells #[.string f.f0, .int .i64 f.f1, .int .i64 f.f2, .slice A f.f3.length c] 45)) w.heap.size f A c:=⟨blk_new _ _,Kd.C_below h (below_alloc (Below.refl _ _) _)⟩
end
end Go.Proofs.YthcpbojmalgdbaaGreatDoor.Q
