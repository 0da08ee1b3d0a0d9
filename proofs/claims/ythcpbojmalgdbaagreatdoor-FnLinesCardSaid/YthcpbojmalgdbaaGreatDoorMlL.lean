/- Merged out of this seat's own texts. -/
import Derived.Test.YthcpbojmalgdbaaGreatDoorMlF
set_option linter.unusedVariables false
set_option linter.unusedSimpArgs false
namespace Go.Proofs.YthcpbojmalgdbaaGreatDoor.Q
open Go.RowKit Go.Proofs.YthcpbojmalgdbaaGreatDoorW.PrintWords Go.Proofs.YthcpbojmalgdbaaGreatDoorW.PrintLast Go.Proofs.YthcpbojmalgdbaaGreatDoorW.PrintMore Go.Proofs.YthcpbojmalgdbaaGreatDoor.Core
structure RdB (w:World) (base:Nat) (v0 v1 v2:Value) (b:Book):Prop where
 caps:Kd.R k80 80 w base (fun _=>True) v0 b.f0
 flights:Kd.R k45 45 w base (fun _=>True) v1 b.f1
 slots:Kd.R (Kd.int .i64) 3 w base (fun _=>True) v2 b.f2
structure BoxR (w:World) (base B:Nat) (v0 v1 v2:Value) (b:Book):Prop where
 box:w.heap[B]? = some (.cells #[v0,v1,v2] 33 (0,0))
 book:RdB w base v0 v1 v2 b
section
variable {w w1:World} {base base' B:Nat} {v0 v1 v2:Value} {b:Book}
theorem OwnB.rd (h:OwnB w base v0 v1 v2 b):RdB w base v0 v1 v2 b:=⟨h.caps,Kd.S_R h.flights,h.slots⟩
theorem BoxB.rd (h:BoxB w base B v0 v1 v2 b):BoxR w base B v0 v1 v2 b:=⟨h.box,h.book.rd⟩
theorem RdB.lower (h:RdB w base v0 v1 v2 b) (hb:base'≤base):RdB w base' v0 v1 v2 b:=⟨Kd.R_lower h.caps hb,Kd.R_lower h.flights hb,Kd.R_lower h.slots hb⟩
theorem RdB.below (h:RdB w base v0 v1 v2 b) (hb:Below w.heap.size w w1):RdB w1 base v0 v1 v2 b:=⟨Kd.R_below h.caps hb,Kd.R_below h.flights hb,Kd.R_below h.slots hb⟩
theorem RdB.form (h:RdB w base v0 v1 v2 b):∃ A0 c0 A1 c1 A2 c2,v0 = .slice A0 b.f0.length c0∧v1 = .slice A1 b.f1.length c1∧v2 = .slice A2 b.f2.length c2:=by
 obtain ⟨A0,c0,e0⟩:=Kd.R_slice h.caps
 obtain ⟨A1,c1,e1⟩:=Kd.R_slice h.flights
 obtain ⟨A2,c2,e2⟩:=Kd.R_slice h.slots
 exact ⟨A0,c0,A1,c1,A2,c2,e0,e1,e2⟩
theorem RdB.form_D {n0 n1 n2 c0 c1 c2:Nat} {A0 A1 A2:Option Addr} (h:RdB w base (.slice A0 n0 c0) (.slice A1 n1 c1) (.slice A2 n2 c2) b):Kd.C k80 w A0 b.f0.length b.f0∧Kd.C k45 w A1 b.f1.length b.f1∧Kd.C (Kd.int .i64) w A2 b.f2.length b.f2 :=
 ⟨(Kd.R_reads' h.caps).2.2,(Kd.R_reads' h.flights).2.2,(Kd.R_reads' h.slots).2.2⟩
theorem RdB.cell {cs:Array Value} {r:Nat} (h:RdB w base v0 v1 v2 b) (hr:w.heap[r]? = some (.cells cs 33 (0,0))) (j:Nat) (u:Value):RdB (w.setCell ⟨r,j,none⟩ u) base v0 v1 v2 b :=
 ⟨Kd.R_set h.caps hr caps_book _ _,Kd.R_set h.flights hr flights_book _ _,Kd.R_set h.slots hr ints_book _ _⟩
theorem RdB.cell3 {cs:Array Value} {r:Nat} (h:RdB w base v0 v1 v2 b) (hr:w.heap[r]? = some (.cells cs 33 (0,0))) (u0 u1 u2:Value):RdB (((w.setCell ⟨r,0,none⟩ u0).setCell ⟨r,1,none⟩ u1).setCell ⟨r,2,none⟩ u2) base v0 v1 v2 b :=
 ((h.cell hr 0 u0).cell (blk_set hr 0 u0) 1 u1).cell (blk_set (blk_set hr 0 u0) 1 u1) 2 u2
theorem RdB.slot {g n c:Nat} (h:RdB w base v0 v1 (.slice (some ⟨g,0,none⟩) n c) b) (k:Nat) (y:Int):RdB (w.setCell ⟨g,k,none⟩ (.int .i64 y)) base v0 v1 (.slice (some ⟨g,0,none⟩) n c) ⟨b.f0,b.f1,b.f2.set k y⟩:=by
 obtain ⟨cs,hc⟩:=Kd.R_typed h.slots g rfl
 exact ⟨Kd.R_set h.caps hc caps_int _ _,Kd.R_set h.flights hc flights_int _ _,R_setN h.slots k y⟩
theorem BoxR.below (h:BoxR w base B v0 v1 v2 b) (hb:Below w.heap.size w w1):BoxR w1 base B v0 v1 v2 b:=⟨blk_below h.box hb,h.book.below hb⟩
theorem BoxR.cells (h:BoxR w base B v0 v1 v2 b):w.cell? ⟨B,0,none⟩=some v0∧w.cell? ⟨B,1,none⟩=some v1∧w.cell? ⟨B,2,none⟩=some v2:=⟨(blk_cell h.box 0).trans rfl,(blk_cell h.box 1).trans rfl,(blk_cell h.box 2).trans rfl⟩
theorem BoxR.made (h:RdB w base v0 v1 v2 b):BoxR (w.alloc (.cells #[v0,v1,v2] 33)) base w.heap.size v0 v1 v2 b:=⟨blk_new _ _,h.below (below_alloc (Below.refl _ _) _)⟩
theorem BoxR.put {u0 u1 u2:Value} {c:Book} (h:BoxR w base B v0 v1 v2 b) (h':RdB w base u0 u1 u2 c):BoxR (((w.setCell ⟨B,0,none⟩ u0).setCell ⟨B,1,none⟩ u1).setCell ⟨B,2,none⟩ u2) base B u0 u1 u2 c :=
 ⟨blk_set (blk_set (blk_set h.box 0 u0) 1 u1) 2 u2,h'.cell3 h.box u0 u1 u2⟩
end
structure RdO (w:World) (base hi:Nat) (v0 v1 v2:Value) (b:Book):Prop where
 caps:Kd.R k80 80 w base (fun k=>k<hi) v0 b.f0
 flights:Kd.R k45 45 w base (fun k=>k<hi) v1 b.f1
 slots:Kd.R (Kd.int .i64) 3 w base (fun k=>k<hi) v2 b.f2
section
variable {w w1:World} {base hi:Nat} {v0 v1 v2:Value} {b:Book}
theorem RdO.below (h:RdO w base hi v0 v1 v2 b) (hb:Below w.heap.size w w1):RdO w1 base hi v0 v1 v2 b:=⟨Kd.R_below h.caps hb,Kd.R_below h.flights hb,Kd.R_below h.slots hb⟩
theorem RdO.far (h:RdO w base hi v0 v1 v2 b) {p:Addr} (hp:hi≤p.block) (u:Value):RdO (w.setCell p u) base hi v0 v1 v2 b:=⟨Kd.R_far h.caps (fun k hk=>by omega) u,Kd.R_far h.flights (fun k hk=>by omega) u,Kd.R_far h.slots (fun k hk=>by omega) u⟩
theorem R_old {α:Type} {d:Kd α} {e:Nat} {v:Value} {xs:List α} (h:d.R e w base (fun _=>True) v xs) {p:Addr} (hp:p.block<base) (u:Value):d.R e (w.setCell p u) base (fun _=>True) v xs :=
 Kd.R_mono (Kd.R_far (Kd.R_mono (Kd.R_bound h) (fun k a=>(by have:=a.2.1;omega:k≠p.block))) (fun _ e=>e) u) (fun _ _=>trivial)
theorem RdB.setOld (h:RdB w base v0 v1 v2 b) {p:Addr} (hp:p.block<base) (u:Value):RdB (w.setCell p u) base v0 v1 v2 b:=⟨R_old h.caps hp u,R_old h.flights hp u,R_old h.slots hp u⟩
end
end Go.Proofs.YthcpbojmalgdbaaGreatDoor.Q
