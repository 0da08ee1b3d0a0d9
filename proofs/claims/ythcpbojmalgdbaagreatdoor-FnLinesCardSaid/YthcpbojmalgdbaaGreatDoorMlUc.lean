/- Merged out of this seat's own texts. -/
import Derived.Test.YthcpbojmalgdbaaGreatDoorMlU
import Derived.Test.YthcpbojmalgdbaaGreatDoorMlUb
import Derived.Test.YthcpbojmalgdbaaGreatDoorMlDp
import Derived.Test.YthcpbojmalgdbaaGreatDoorMlG
import Derived.Test.YthcpbojmalgdbaaGreatDoorMlR
import Derived.Test.YthcpbojmalgdbaaGreatDoorMlQ
set_option linter.unusedVariables false
set_option linter.unusedSimpArgs false
namespace Go.Proofs.YthcpbojmalgdbaaGreatDoor.Q
open Go.RowKit Go.Proofs.YthcpbojmalgdbaaGreatDoorW.PrintWords Go.Proofs.YthcpbojmalgdbaaGreatDoorW.PrintLast Go.Proofs.YthcpbojmalgdbaaGreatDoorW.PrintMore Go.Proofs.YthcpbojmalgdbaaGreatDoor.Core
theorem runsB_few (l:List Flight) (s:List Int) (sec:ByteArray):(runsB l s sec).length≤10300:=by
 unfold runsB
 split
 ·exact runsN_len l s sec 10300
 ·exact Nat.zero_le _
structure LnW (w V:World) (p0 p1 p2:Value):Prop where
 P:V.heap[w.heap.size]? = some (.cells #[p0,p1,p2] 33 (0,0))
 Z:V.heap[w.heap.size+1]? = some (.cells #[.slice none 0 0, .slice none 0 0, .slice none 0 0] 33 (0,0))
 L:Below w.heap.size w V
theorem LnW.below {w V V1:World} {p0 p1 p2:Value} (h:LnW w V p0 p1 p2) (hb:Below V.heap.size V V1):LnW w V1 p0 p1 p2:=⟨blk_below h.P hb,blk_below h.Z hb,below_next h.L h.L.size hb⟩
def lnStart (w:World) (p0 p1 p2:Value):World:=(w.alloc (.cells #[p0,p1,p2] 33)).alloc (.cells #[.slice none 0 0, .slice none 0 0, .slice none 0 0] 33)
theorem lnStart_eq (w:World) (p0 p1 p2:Value):lnStart w p0 p1 p2=(w.alloc (.cells #[p0,p1,p2] 33)).alloc (.cells #[.slice none 0 0, .slice none 0 0, .slice none 0 0] 33):=rfl
theorem LnW.start (w:World) (p0 p1 p2:Value):LnW w (lnStart w p0 p1 p2) p0 p1 p2 :=
 ⟨blk_alloc (blk_new w _) _,(by have t:=blk_new (w.alloc (.cells #[p0,p1,p2] 33)) (.cells #[.slice none 0 0, .slice none 0 0, .slice none 0 0] 33);rw [World.size_alloc] at t;exact t),below_alloc (below_alloc (Below.refl _ _) _) _⟩
theorem LnW.zf {w V:World} {p0 p1 p2:Value} (h:LnW w V p0 p1 p2):(V.cell? ⟨w.heap.size+1,0,none⟩=some (.slice none 0 0)∧V.frozen? ⟨w.heap.size+1,0,none⟩=false)∧(V.cell? ⟨w.heap.size+1,1,none⟩=some (.slice none 0 0)∧V.frozen? ⟨w.heap.size+1,1,none⟩=false)∧(V.cell? ⟨w.heap.size+1,2,none⟩=some (.slice none 0 0)∧V.frozen? ⟨w.heap.size+1,2,none⟩=false) :=
 ⟨⟨(blk_cell h.Z 0).trans rfl,blk_frozen h.Z 0⟩,⟨(blk_cell h.Z 1).trans rfl,blk_frozen h.Z 1⟩,⟨(blk_cell h.Z 2).trans rfl,blk_frozen h.Z 2⟩⟩
theorem LnW.pc {w V:World} {p0 p1 p2:Value} (h:LnW w V p0 p1 p2):V.cell? ⟨w.heap.size,0,none⟩=some p0∧V.cell? ⟨w.heap.size,1,none⟩=some p1∧V.cell? ⟨w.heap.size,2,none⟩=some p2:=⟨(blk_cell h.P 0).trans rfl,(blk_cell h.P 1).trans rfl,(blk_cell h.P 2).trans rfl⟩
theorem LnW.fin {w V:World} {base:Nat} {p0 p1 p2 v0 v1 v2:Value} {b:Book} (h:LnW w V p0 p1 p2) (hr:RdB V base v0 v1 v2 b) :
  Hid ((((V.setCell ⟨w.heap.size+1,0,none⟩ v0).setCell ⟨w.heap.size+1,1,none⟩ v1).setCell ⟨w.heap.size+1,2,none⟩ v2).heap[w.heap.size+1]? = some (.cells #[v0,v1,v2] 33 (0,0)))∧Hid (RdB (((V.setCell ⟨w.heap.size+1,0,none⟩ v0).setCell ⟨w.heap.size+1,1,none⟩ v1).setCell ⟨w.heap.size+1,2,none⟩ v2) base v0 v1 v2 b)∧Hid (Below w.heap.size w (((V.setCell ⟨w.heap.size+1,0,none⟩ v0).setCell ⟨w.heap.size+1,1,none⟩ v1).setCell ⟨w.heap.size+1,2,none⟩ v2)) :=
 ⟨blk_set (blk_set (blk_set h.Z 0 v0) 1 v1) 2 v2,hr.cell3 h.Z v0 v1 v2,((h.L.setCell (p:=⟨w.heap.size+1,0,none⟩) (Nat.le_succ _) v0).setCell (p:=⟨w.heap.size+1,1,none⟩) (Nat.le_succ _) v1).setCell (p:=⟨w.heap.size+1,2,none⟩) (Nat.le_succ _) v2⟩
theorem one_word {ws:List ByteArray} {t:ByteArray} (h:ws.headD ByteArray.empty=t) (h1:ws.length=1):ws=[t]:=by
 match ws,h1 with
 | [a],_=>rw [← h];rfl
theorem not_one {ws:List ByteArray} {t:ByteArray} (h:¬ (ws.headD ByteArray.empty=t∧ws.length=1)):¬ ws=[t]:=fun e=>h (by rw [e];exact ⟨rfl,rfl⟩)
structure LineIn (base lo g c:Nat) (ok:Nat→Prop) (A0:Option Addr) (c0:Nat) (A1:Option Addr) (c1:Nat) (A2:Option Addr) (c2:Nat) (b:Book) (w:World) (ws:List ByteArray):Prop where
 h:RdB w base (.slice A0 b.f0.length c0) (.slice A1 b.f1.length c1) (.slice A2 b.f2.length c2) b
 hbase:base≤w.heap.size
 hok:okB b=true
 hw:Kd.R Kd.string 9 w lo ok (.slice (some ⟨g,0,none⟩) ws.length c) ws
 hp0:0<ws.length
 hsz:∀ s∈ws,s.size≤1000000
 hlen:ws.length≤1000000
def LineOk (base g c:Nat) (A0:Option Addr) (c0:Nat) (A1:Option Addr) (c1:Nat) (A2:Option Addr) (c2:Nat) (b:Book) (w:World) (ws:List ByteArray):Prop :=
 Calls Tryz.prog 9 #[.agg #[.slice A0 b.f0.length c0, .slice A1 b.f1.length c1, .slice A2 b.f2.length c2], .slice (some ⟨g,0,none⟩) ws.length c] w fun e w'=>∃ u0 u1 u2,e = .returned (.tuple #[.agg #[u0,u1,u2], .string (lineR b ws).2])∧RdB w' base u0 u1 u2 (lineR b ws).1∧Below w.heap.size w w'
def HF (a:ByteArray) (x1 x2 x3 x4 x5 x6 x7 x8:Bool):Prop:=(a.toList == [99,97,112])=x1∧(a.toList == [97,100,100])=x2∧(a.toList == [100,114,111,112])=x3∧(a.toList == [99,111,109,112,114,101,115,115])=x4∧(a.toList == [97,103,97,105,110])=x5∧(a.toList == [115,108,111,116,115])=x6∧(a.toList == [108,111,97,100])=x7∧(a.toList == [98,111,117,110,100])=x8
theorem HF_tCap {a:ByteArray} (h:a=tCap):HF a true false false false false false false false:=⟨tst_yes h,tst_ne h (by decide),tst_ne h (by decide),tst_ne h (by decide),tst_ne h (by decide),tst_ne h (by decide),tst_ne h (by decide),tst_ne h (by decide)⟩
theorem HF_tAdd {a:ByteArray} (h:a=tAdd):HF a false true false false false false false false:=⟨tst_ne h (by decide),tst_yes h,tst_ne h (by decide),tst_ne h (by decide),tst_ne h (by decide),tst_ne h (by decide),tst_ne h (by decide),tst_ne h (by decide)⟩
theorem HF_tDrop {a:ByteArray} (h:a=tDrop):HF a false false true false false false false false:=⟨tst_ne h (by decide),tst_ne h (by decide),tst_yes h,tst_ne h (by decide),tst_ne h (by decide),tst_ne h (by decide),tst_ne h (by decide),tst_ne h (by decide)⟩
theorem HF_tCompress {a:ByteArray} (h:a=tCompress):HF a false false false true false false false false:=⟨tst_ne h (by decide),tst_ne h (by decide),tst_ne h (by decide),tst_yes h,tst_ne h (by decide),tst_ne h (by decide),tst_ne h (by decide),tst_ne h (by decide)⟩
theorem HF_tAgain {a:ByteArray} (h:a=tAgain):HF a false false false false true false false false:=⟨tst_ne h (by decide),tst_ne h (by decide),tst_ne h (by decide),tst_ne h (by decide),tst_yes h,tst_ne h (by decide),tst_ne h (by decide),tst_ne h (by decide)⟩
theorem HF_tSlots {a:ByteArray} (h:a=tSlots):HF a false false false false false true false false:=⟨tst_ne h (by decide),tst_ne h (by decide),tst_ne h (by decide),tst_ne h (by decide),tst_ne h (by decide),tst_yes h,tst_ne h (by decide),tst_ne h (by decide)⟩
theorem HF_tLoad {a:ByteArray} (h:a=tLoad):HF a false false false false false false true false:=⟨tst_ne h (by decide),tst_ne h (by decide),tst_ne h (by decide),tst_ne h (by decide),tst_ne h (by decide),tst_ne h (by decide),tst_yes h,tst_ne h (by decide)⟩
theorem HF_tBound {a:ByteArray} (h:a=tBound):HF a false false false false false false false true:=⟨tst_ne h (by decide),tst_ne h (by decide),tst_ne h (by decide),tst_ne h (by decide),tst_ne h (by decide),tst_ne h (by decide),tst_ne h (by decide),tst_yes h⟩
theorem HF_none {a:ByteArray} (n0:¬ a=tCap) (n1:¬ a=tAdd) (n2:¬ a=tDrop) (n3:¬ a=tCompress) (n4:¬ a=tAgain) (n5:¬ a=tSlots) (n6:¬ a=tLoad) (n7:¬ a=tBound):HF a false false false false false false false false:=⟨tst_no n0,tst_no n1,tst_no n2,tst_no n3,tst_no n4,tst_no n5,tst_no n6,tst_no n7⟩
section
variable {base lo g c:Nat} {ok:Nat→Prop} {A0 A1 A2:Option Addr} {c0 c1 c2:Nat} {b:Book} {w:World} {ws:List ByteArray}
def BadL (ws:List ByteArray):Prop:=¬ (ws.headD ByteArray.empty=tCap∧ws.length=3∧0≤numB (ws.getD 2 ByteArray.empty))∧¬ (ws.headD ByteArray.empty=tAdd∧5≤ws.length∧0≤numB (ws.getD 2 ByteArray.empty)∧0≤numB (ws.getD 3 ByteArray.empty))∧¬ (ws.headD ByteArray.empty=tDrop∧ws.length=2)∧¬ (ws.headD ByteArray.empty=tCompress∧ws.length=1)∧¬ (ws.headD ByteArray.empty=tAgain∧ws.length=1)∧¬ (ws.headD ByteArray.empty=tSlots∧ws.length=1)∧¬ (ws.headD ByteArray.empty=tLoad∧ws.length=2)∧¬ (ws.headD ByteArray.empty=tBound∧ws.length=2)
theorem lineR_badl (h:BadL ws):lineR b ws=(b,tBad):=by
 obtain ⟨h1,h2,h3,h4,h5,h6,h7,h8⟩:=h
 by_cases c1:ws.headD ByteArray.empty=tCap∧ws.length=3
 ·rw [lineR_cap c1.1 c1.2,if_pos (Int.not_le.1 fun hh=>h1 ⟨c1.1,c1.2,hh⟩)]
 by_cases c2:ws.headD ByteArray.empty=tAdd∧5≤ws.length
 ·rw [lineR_add c2.1 c2.2]
  refine addL_bad ?_
  by_cases c3:numB (ws.getD 2 ByteArray.empty)<0
  ·exact .inl c3
  ·exact .inr (Int.not_le.1 fun hh=>h2 ⟨c2.1,c2.2,Int.not_lt.1 c3,hh⟩)
 exact lineR_bad c1 c2 h3 (not_one h4) (not_one h5) (not_one h6) h7 h8
theorem bad_cases {a n2 n3:ByteArray} (ha:a=ws.headD ByteArray.empty) (hq2:n2=ws.getD 2 ByteArray.empty) (hq3:n3=ws.getD 3 ByteArray.empty) (h:BadL ws) :
  HF a false false false false false false false false∨(HF a true false false false false false false false∧(((ws.length:Nat):Int) == 3)=false)∨(HF a true false false false false false false false∧(((ws.length:Nat):Int) == 3)=true∧(2:Int)<ws.length∧decide (numB n2 ≥ 0)=false∧decide (0≤numB n2)=false)∨(HF a false true false false false false false false∧decide (((ws.length:Nat):Int) > 4)=false∧decide ((4:Int)<((ws.length:Nat):Int))=false)∨(HF a false true false false false false false false∧decide (((ws.length:Nat):Int) > 4)=true∧decide ((4:Int)<((ws.length:Nat):Int))=true∧(2:Int)<ws.length∧decide (numB n2 ≥ 0)=false∧decide (0≤numB n2)=false)∨(HF a false true false false false false false false∧decide (((ws.length:Nat):Int) > 4)=true∧decide ((4:Int)<((ws.length:Nat):Int))=true∧(2:Int)<ws.length∧(3:Int)<ws.length∧decide (numB n2 ≥ 0)=true∧decide (0≤numB n2)=true∧decide (numB n3 ≥ 0)=false∧decide (0≤numB n3)=false)∨(HF a false false true false false false false false∧(((ws.length:Nat):Int) == 2)=false)∨(HF a false false false true false false false false∧(((ws.length:Nat):Int) == 1)=false)∨(HF a false false false false true false false false∧(((ws.length:Nat):Int) == 1)=false)∨(HF a false false false false false true false false∧(((ws.length:Nat):Int) == 1)=false)∨(HF a false false false false false false true false∧(((ws.length:Nat):Int) == 2)=false)∨(HF a false false false false false false false true∧(((ws.length:Nat):Int) == 2)=false):=by
 obtain ⟨h1,h2,h3,h4,h5,h6,h7,h8⟩:=h
 rw [← ha,← hq2] at h1 h2
 rw [← hq3] at h2
 rw [← ha] at h3 h4 h5 h6 h7 h8
 by_cases x1:a=tCap
 ·by_cases c1:ws.length=3
  ·have h9:¬ 0≤numB n2:=fun hh=>h1 ⟨x1,c1,hh⟩
   exact .inr (.inr (.inl (⟨HF_tCap x1,by rw [show ws.length=3 from c1];rfl,by omega,decide_eq_false (by omega),decide_eq_false (by omega)⟩)))
  ·exact .inr (.inl (⟨HF_tCap x1,by rw [beq_eq_false_iff_ne];omega⟩))
 by_cases x2:a=tAdd
 ·by_cases c1:5≤ws.length
  ·by_cases c2:0≤numB n2
   ·have h9:¬ 0≤numB n3:=fun hh=>h2 ⟨x2,c1,c2,hh⟩
    exact .inr (.inr (.inr (.inr (.inr (.inl (⟨HF_tAdd x2,decide_eq_true (by omega),decide_eq_true (by omega),by omega,by omega,decide_eq_true (by omega),decide_eq_true (by omega),decide_eq_false (by omega),decide_eq_false (by omega)⟩))))))
   ·exact .inr (.inr (.inr (.inr (.inl (⟨HF_tAdd x2,decide_eq_true (by omega),decide_eq_true (by omega),by omega,decide_eq_false (by omega),decide_eq_false (by omega)⟩)))))
  ·exact .inr (.inr (.inr (.inl (⟨HF_tAdd x2,decide_eq_false (by omega),decide_eq_false (by omega)⟩))))
 by_cases x3:a=tDrop
 ·have h9:¬ ws.length=2:=fun hh=>h3 ⟨x3,hh⟩
  exact .inr (.inr (.inr (.inr (.inr (.inr (.inl (⟨HF_tDrop x3,by rw [beq_eq_false_iff_ne];omega⟩)))))))
 by_cases x4:a=tCompress
 ·have h9:¬ ws.length=1:=fun hh=>h4 ⟨x4,hh⟩
  exact .inr (.inr (.inr (.inr (.inr (.inr (.inr (.inl (⟨HF_tCompress x4,by rw [beq_eq_false_iff_ne];omega⟩))))))))
 by_cases x5:a=tAgain
 ·have h9:¬ ws.length=1:=fun hh=>h5 ⟨x5,hh⟩
  exact .inr (.inr (.inr (.inr (.inr (.inr (.inr (.inr (.inl (⟨HF_tAgain x5,by rw [beq_eq_false_iff_ne];omega⟩)))))))))
 by_cases x6:a=tSlots
 ·have h9:¬ ws.length=1:=fun hh=>h6 ⟨x6,hh⟩
  exact .inr (.inr (.inr (.inr (.inr (.inr (.inr (.inr (.inr (.inl (⟨HF_tSlots x6,by rw [beq_eq_false_iff_ne];omega⟩))))))))))
 by_cases x7:a=tLoad
 ·have h9:¬ ws.length=2:=fun hh=>h7 ⟨x7,hh⟩
  exact .inr (.inr (.inr (.inr (.inr (.inr (.inr (.inr (.inr (.inr (.inl (⟨HF_tLoad x7,by rw [beq_eq_false_iff_ne];omega⟩)))))))))))
 by_cases x8:a=tBound
 ·have h9:¬ ws.length=2:=fun hh=>h8 ⟨x8,hh⟩
  exact .inr (.inr (.inr (.inr (.inr (.inr (.inr (.inr (.inr (.inr (.inr (⟨HF_tBound x8,by rw [beq_eq_false_iff_ne];omega⟩)))))))))))
 exact .inl (HF_none x1 x2 x3 x4 x5 x6 x7 x8)
set_option maxRecDepth 100000 in
set_option maxHeartbeats 16000000 in
theorem line_bad (hI:LineIn base lo g c ok A0 c0 A1 c1 A2 c2 b w ws) (hb:BadL ws):LineOk base g c A0 c0 A1 c1 A2 c2 b w ws:=by
 have HI:=Lib.hid hI
 obtain ⟨hd,hhd⟩:∃ x,x=ws.headD ByteArray.empty:=⟨_,rfl⟩
 obtain ⟨_,hbase,hok,hw,hp0,hsz,hlen⟩:=hI
 have HHD:=Lib.hid hhd
 have HL:=Lib.hid (lineR_badl (b:=b) hb)
 obtain ⟨n2,hq2⟩:∃ x,x=ws.getD 2 ByteArray.empty:=⟨_,rfl⟩
 have N2:=Lib.hid hq2
 obtain ⟨n3,hq3⟩:∃ x,x=ws.getD 3 ByteArray.empty:=⟨_,rfl⟩
 have N3:=Lib.hid hq3
 have hc:=bad_cases hhd hq2 hq3 hb
 have HC:=Lib.hid hc
 clear hok hw hsz hhd hb hc hq2 hq3
 unfold LineOk
 have C0:=Lib.hid (LnW.start w (.slice A0 b.f0.length c0) (.slice A1 b.f1.length c1) (.slice A2 b.f2.length c2))
 go_enter Tryz.func9,Tryz.ntmps9
 go_upto_region 1 with (fail)
 rw [← lnStart_eq]
 generalize lnStart w (.slice A0 b.f0.length c0) (.slice A1 b.f1.length c1) (.slice A2 b.f2.length c2)=w1 at C0 ⊢
 have HW1:=Lib.hid (Kd.R_below HI.out.hw C0.out.L)
 have g0:w1.cell? ⟨g,0,none⟩=some (.string hd):=strCell HW1.out 0 (by rw [HHD.out];exact head_get hp0)
 obtain ⟨cb0,cb1,cb2⟩:=C0.out.pc
 obtain ⟨⟨cz0,fz0⟩,⟨cz1,fz1⟩,cz2,fz2⟩:=C0.out.zf
 obtain ⟨ZW,RW,LW⟩:=C0.out.fin (HI.out.h.below C0.out.L)
 have hc:=HC.out
 clear HC
 rcases hc with ⟨a1,a2,a3,a4,a5,a6,a7,a8⟩ | ⟨⟨a1,a2,a3,a4,a5,a6,a7,a8⟩,e1⟩ | ⟨⟨a1,a2,a3,a4,a5,a6,a7,a8⟩,e1,i2,f2,f2'⟩ | ⟨⟨a1,a2,a3,a4,a5,a6,a7,a8⟩,e1,e2⟩ | ⟨⟨a1,a2,a3,a4,a5,a6,a7,a8⟩,e1,e2,i2,f2,f2'⟩ | ⟨⟨a1,a2,a3,a4,a5,a6,a7,a8⟩,e1,e2,i2,i3,f2,f2',f3,f3'⟩ | ⟨⟨a1,a2,a3,a4,a5,a6,a7,a8⟩,e1⟩ | ⟨⟨a1,a2,a3,a4,a5,a6,a7,a8⟩,e1⟩ | ⟨⟨a1,a2,a3,a4,a5,a6,a7,a8⟩,e1⟩ | ⟨⟨a1,a2,a3,a4,a5,a6,a7,a8⟩,e1⟩ | ⟨⟨a1,a2,a3,a4,a5,a6,a7,a8⟩,e1⟩ | ⟨⟨a1,a2,a3,a4,a5,a6,a7,a8⟩,e1⟩
 all_goals
  try have g2:w1.cell? ⟨g,2,none⟩=some (.string n2):=by rw [N2.out];exact strCell HW1.out 2 (get_word (by omega))
  try have g3:w1.cell? ⟨g,3,none⟩=some (.string n3):=by rw [N3.out];exact strCell HW1.out 3 (get_word (by omega))
  go_wp2_with ((go_at_call 20;refine (l6Number_any _ _).mono ?_;rintro e w' ⟨rfl,rfl⟩))
  refine bodyPost_ret (results_ct rfl _ _ (w.heap.size+1) 33 #[.slice A0 b.f0.length c0, .slice A1 b.f1.length c1, .slice A2 b.f2.length c2] (0,0) _ rfl ZW.out Tryz.underlying33 rfl (by kernel_rfl)) rfl ?_
  rw [HL.out]
  exact ⟨_,_,_,rfl,RW.out,LW.out⟩
set_option maxRecDepth 100000 in
set_option maxHeartbeats 16000000 in
theorem line_cap (hI:LineIn base lo g c ok A0 c0 A1 c1 A2 c2 b w ws) (hX:ws.headD ByteArray.empty=tCap) (hl_:ws.length=3) (hn2:¬ numB (ws.getD 2 ByteArray.empty)<0):LineOk base g c A0 c0 A1 c1 A2 c2 b w ws:=by
 have HI:=Lib.hid hI
 obtain ⟨hd,hhd⟩:∃ x,x=ws.headD ByteArray.empty:=⟨_,rfl⟩
 obtain ⟨a1,a2,a3,a4,a5,a6,a7,a8⟩:=HF_tCap (hhd.trans hX)
 obtain ⟨_,hbase,hok,hw,hp0,hsz,hlen⟩:=hI
 have e_len:(((ws.length:Nat):Int) == 3)=true:=by rw [hl_];rfl
 have i2:(2:Int)<ws.length:=by omega
 have i1:(1:Int)<ws.length:=by omega
 have HHD:=Lib.hid hhd
 have HL:Hid (lineR b ws=capR b (ws.getD 1 ByteArray.empty) (numB (ws.getD 2 ByteArray.empty))):=by show _=_;rw [lineR_cap hX hl_,if_neg hn2]
 have LN:=Lib.hid hl_
 obtain ⟨n1,hq1⟩:∃ x,x=ws.getD 1 ByteArray.empty:=⟨_,rfl⟩
 have N1:=Lib.hid hq1
 rw [← hq1] at HL
 clear hq1
 obtain ⟨n2,hq2⟩:∃ x,x=ws.getD 2 ByteArray.empty:=⟨_,rfl⟩
 rw [← hq2] at hn2 HL
 have f2:decide (numB n2 ≥ 0)=true:=decide_eq_true (by omega)
 have f2':decide (0≤numB n2)=true:=decide_eq_true (by omega)
 have N2:=Lib.hid hq2
 clear hq2
 clear hok hw hsz hhd hX hl_ hn2
 unfold LineOk
 have C0:=Lib.hid (LnW.start w (.slice A0 b.f0.length c0) (.slice A1 b.f1.length c1) (.slice A2 b.f2.length c2))
 go_enter Tryz.func9,Tryz.ntmps9
 go_upto_region 1 with (fail)
 rw [← lnStart_eq]
 generalize lnStart w (.slice A0 b.f0.length c0) (.slice A1 b.f1.length c1) (.slice A2 b.f2.length c2)=w1 at C0 ⊢
 have HW1:=Lib.hid (Kd.R_below HI.out.hw C0.out.L)
 have g0:w1.cell? ⟨g,0,none⟩=some (.string hd):=strCell HW1.out 0 (by rw [HHD.out];exact head_get hp0)
 have g1:w1.cell? ⟨g,1,none⟩=some (.string n1):=by rw [N1.out];exact strCell HW1.out 1 (get_word (by have:=LN.out;omega))
 have g2:w1.cell? ⟨g,2,none⟩=some (.string n2):=by rw [N2.out];exact strCell HW1.out 2 (get_word (by have:=LN.out;omega))
 have KS:Hid (∀ V,Below w1.heap.size w1 V→V.cell? ⟨w.heap.size,0,none⟩=some (.slice A0 b.f0.length c0)∧V.cell? ⟨w.heap.size,1,none⟩=some (.slice A1 b.f1.length c1)∧V.cell? ⟨w.heap.size,2,none⟩=some (.slice A2 b.f2.length c2)∧V.cell? ⟨g,1,none⟩=some (.string n1)∧V.cell? ⟨g,2,none⟩=some (.string n2)):=fun V h=>⟨pw_cell_below h C0.out.pc.1,pw_cell_below h C0.out.pc.2.1,pw_cell_below h C0.out.pc.2.2,pw_cell_below h g1,pw_cell_below h g2⟩
 go_upto_region 2 with ((go_at_call 20;refine (l6Number_any _ _).mono ?_;rintro e w' ⟨rfl,rfl⟩))
 clear g0 g1 g2
 have b0:Hid (Below w1.heap.size w1 w1.drew):=pw_below_drewN (Below.refl _ _) 1
 refine start_ (n:=13) (S:=fun w'=>w'.cell? ⟨w.heap.size,0,none⟩=some (.slice A0 b.f0.length c0)∧w'.cell? ⟨w.heap.size,1,none⟩=some (.slice A1 b.f1.length c1)∧w'.cell? ⟨w.heap.size,2,none⟩=some (.slice A2 b.f2.length c2)∧w'.cell? ⟨g,1,none⟩=some (.string n1)∧w'.cell? ⟨g,2,none⟩=some (.string n2)) (ds:=[11,12]) #[false,false,false,false,false,false,false,false,false,false,false,false,false] (by kernel_rfl) rfl rfl (KS.out _ b0.out) (fun hHeld => ?_)
 refine pureA 1 (h := ?_)
 refine pureA 2 (h := ?_)
 refine pureA 4 (h := ?_)
 refine pureA 5 (h := ?_)
 refine takeA 0 hHeld (h := ?_)
 refine takeA 3 hHeld (h := ?_)
 refine takeA 6 hHeld (h := ?_)
 generalize w1.drew=V0 at hHeld b0 ⊢
 refine oneA 7 (h:=fun K hK => ?_)
 go_simp
 refine (l6Number_any n2 V0).mono ?_
 rintro e w' ⟨rfl,rfl⟩
 go_simp
 refine hK.out _ _ (KS.out _ b0.out) (fun hHeld => ?_)
 clear hK K
 refine oneA 8 (h:=fun K hK => ?_)
 go_simp
 have hV:base≤V0.heap.size:=Nat.le_trans hbase (Nat.le_trans C0.out.L.size b0.out.size)
 refine (l6Cap_any A0 c0 A1 c1 A2 c2 b n1 (numB n2) V0 (HI.out.h.below (below_next C0.out.L C0.out.L.size b0.out)) hV HI.out.hok).mono ?_
 rintro e w2 ⟨u0,u1,u2,rfl,hr,hb⟩
 go_simp
 have b2:Hid (Below w1.heap.size w1 w2):=b0.out.trans (hb.mono b0.out.size)
 obtain ⟨B0,d0,B1,d1,B2,d2,rfl,rfl,rfl⟩:=hr.form
 have RD:=Lib.hid hr
 have C2:=Lib.hid (C0.out.below b2.out)
 clear hr hb
 refine hK.out _ _ (KS.out _ b2.out) (fun hHeld => ?_)
 clear hK K
 refine pureA 9 (h := ?_)
 refine pureA 10 (h := ?_)
 obtain ⟨⟨cz0,fz0⟩,⟨cz1,fz1⟩,cz2,fz2⟩:=C2.out.zf
 refine lastA 11 (h:=fun K hK => ?_)
 go_simp
 refine hK.out _ _ ?_
 clear hK K
 refine lastA 12 (h:=fun K hK => ?_)
 go_simp
 refine hK.out _ _ ?_
 clear hK K
 refine doneA (h := ?_)
 obtain ⟨ZW,RW,LW⟩:=C2.out.fin (RD.out)
 try clear cz0 cz1 cz2 fz0 fz1 fz2
 go_wp2
 refine bodyPost_ret (results_ct rfl _ _ (w.heap.size+1) 33 #[.slice B0 (capR b n1 (numB n2)).1.f0.length d0, .slice B1 (capR b n1 (numB n2)).1.f1.length d1, .slice B2 (capR b n1 (numB n2)).1.f2.length d2] (0,0) _ rfl ZW.out Tryz.underlying33 rfl (by kernel_rfl)) rfl ?_
 rw [HL.out]
 exact ⟨_,_,_,rfl,RW.out,LW.out⟩
set_option maxRecDepth 100000 in
set_option maxHeartbeats 16000000 in
theorem line_slots (hI:LineIn base lo g c ok A0 c0 A1 c1 A2 c2 b w ws) (hX:ws.headD ByteArray.empty=tSlots) (hl_:ws.length=1):LineOk base g c A0 c0 A1 c1 A2 c2 b w ws:=by
 have HI:=Lib.hid hI
 obtain ⟨hd,hhd⟩:∃ x,x=ws.headD ByteArray.empty:=⟨_,rfl⟩
 obtain ⟨a1,a2,a3,a4,a5,a6,a7,a8⟩:=HF_tSlots (hhd.trans hX)
 obtain ⟨_,hbase,hok,hw,hp0,hsz,hlen⟩:=hI
 have e_len:(((ws.length:Nat):Int) == 1)=true:=by rw [hl_];rfl
 have HHD:=Lib.hid hhd
 have HL:=Lib.hid (lineR_slots (b:=b) (one_word hX hl_))
 have LN:=Lib.hid hl_
 clear hok hw hsz hhd hX hl_
 unfold LineOk
 have C0:=Lib.hid (LnW.start w (.slice A0 b.f0.length c0) (.slice A1 b.f1.length c1) (.slice A2 b.f2.length c2))
 go_enter Tryz.func9,Tryz.ntmps9
 go_upto_region 1 with (fail)
 rw [← lnStart_eq]
 generalize lnStart w (.slice A0 b.f0.length c0) (.slice A1 b.f1.length c1) (.slice A2 b.f2.length c2)=w1 at C0 ⊢
 have HW1:=Lib.hid (Kd.R_below HI.out.hw C0.out.L)
 have g0:w1.cell? ⟨g,0,none⟩=some (.string hd):=strCell HW1.out 0 (by rw [HHD.out];exact head_get hp0)
 have KS:Hid (∀ V,Below w1.heap.size w1 V→V.cell? ⟨w.heap.size,0,none⟩=some (.slice A0 b.f0.length c0)∧V.cell? ⟨w.heap.size,1,none⟩=some (.slice A1 b.f1.length c1)∧V.cell? ⟨w.heap.size,2,none⟩=some (.slice A2 b.f2.length c2)):=fun V h=>⟨pw_cell_below h C0.out.pc.1,pw_cell_below h C0.out.pc.2.1,pw_cell_below h C0.out.pc.2.2⟩
 go_upto_region 20 with ((go_at_call 20;refine (l6Number_any _ _).mono ?_;rintro e w' ⟨rfl,rfl⟩))
 clear g0
 have b0:Hid (Below w1.heap.size w1 w1.drew):=pw_below_drewN (Below.refl _ _) 1
 refine start_ (n:=5) (S:=fun w'=>w'.cell? ⟨w.heap.size,0,none⟩=some (.slice A0 b.f0.length c0)∧w'.cell? ⟨w.heap.size,1,none⟩=some (.slice A1 b.f1.length c1)∧w'.cell? ⟨w.heap.size,2,none⟩=some (.slice A2 b.f2.length c2)) (ds:=[3,4]) #[false,false,false,false,false] (by kernel_rfl) rfl rfl (KS.out _ b0.out) (fun hHeld => ?_)
 refine takeA 0 hHeld (h := ?_)
 refine takeA 1 hHeld (h := ?_)
 generalize w1.drew=V0 at hHeld b0 ⊢
 refine oneA 2 (h:=fun K hK => ?_)
 go_simp
 have hrb:=(HI.out.h.below (below_next C0.out.L C0.out.L.size b0.out)).form_D
 refine (l6Slots_any A0 c0 A1 c1 A2 c2 b V0 hrb.2.1 hrb.2.2 HI.out.hok).mono ?_
 rintro e w2 ⟨rfl,hb⟩
 go_simp
 have b2:Hid (Below w1.heap.size w1 w2):=b0.out.trans (hb.mono b0.out.size)
 clear hb hrb
 have C2:=Lib.hid (C0.out.below b2.out)
 refine hK.out _ _ (KS.out _ b2.out) (fun hHeld => ?_)
 clear hK K
 obtain ⟨⟨cz0,fz0⟩,⟨cz1,fz1⟩,cz2,fz2⟩:=C2.out.zf
 refine lastA 3 (h:=fun K hK => ?_)
 go_simp
 refine hK.out _ _ ?_
 clear hK K
 refine lastA 4 (h:=fun K hK => ?_)
 go_simp
 refine hK.out _ _ ?_
 clear hK K
 refine doneA (h := ?_)
 obtain ⟨ZW,RW,LW⟩:=C2.out.fin (HI.out.h.below C2.out.L)
 try clear cz0 cz1 cz2 fz0 fz1 fz2
 go_wp2
 refine bodyPost_ret (results_ct rfl _ _ (w.heap.size+1) 33 #[.slice A0 b.f0.length c0, .slice A1 b.f1.length c1, .slice A2 b.f2.length c2] (0,0) _ rfl ZW.out Tryz.underlying33 rfl (by kernel_rfl)) rfl ?_
 rw [HL.out]
 exact ⟨_,_,_,rfl,RW.out,LW.out⟩
set_option maxRecDepth 100000 in
set_option maxHeartbeats 16000000 in
theorem line_load (hI:LineIn base lo g c ok A0 c0 A1 c1 A2 c2 b w ws) (hX:ws.headD ByteArray.empty=tLoad) (hl_:ws.length=2):LineOk base g c A0 c0 A1 c1 A2 c2 b w ws:=by
 have HI:=Lib.hid hI
 obtain ⟨hd,hhd⟩:∃ x,x=ws.headD ByteArray.empty:=⟨_,rfl⟩
 obtain ⟨a1,a2,a3,a4,a5,a6,a7,a8⟩:=HF_tLoad (hhd.trans hX)
 obtain ⟨_,hbase,hok,hw,hp0,hsz,hlen⟩:=hI
 have e_len:(((ws.length:Nat):Int) == 2)=true:=by rw [hl_];rfl
 have i1:(1:Int)<ws.length:=by omega
 have HHD:=Lib.hid hhd
 have HL:=Lib.hid (lineR_load (b:=b) hX hl_)
 have LN:=Lib.hid hl_
 obtain ⟨n1,hn1⟩:∃ x,x=ws.getD 1 ByteArray.empty:=⟨_,rfl⟩
 rw [← hn1] at HL
 have N1:=Lib.hid hn1
 clear hn1
 clear hok hw hsz hhd hX hl_
 unfold LineOk
 have C0:=Lib.hid (LnW.start w (.slice A0 b.f0.length c0) (.slice A1 b.f1.length c1) (.slice A2 b.f2.length c2))
 go_enter Tryz.func9,Tryz.ntmps9
 go_upto_region 1 with (fail)
 rw [← lnStart_eq]
 generalize lnStart w (.slice A0 b.f0.length c0) (.slice A1 b.f1.length c1) (.slice A2 b.f2.length c2)=w1 at C0 ⊢
 have HW1:=Lib.hid (Kd.R_below HI.out.hw C0.out.L)
 have g0:w1.cell? ⟨g,0,none⟩=some (.string hd):=strCell HW1.out 0 (by rw [HHD.out];exact head_get hp0)
 have g1:w1.cell? ⟨g,1,none⟩=some (.string n1):=by rw [N1.out];exact strCell HW1.out 1 (get_word (by have:=LN.out;omega))
 have KS:Hid (∀ V,Below w1.heap.size w1 V→V.cell? ⟨w.heap.size,0,none⟩=some (.slice A0 b.f0.length c0)∧V.cell? ⟨w.heap.size,1,none⟩=some (.slice A1 b.f1.length c1)∧V.cell? ⟨w.heap.size,2,none⟩=some (.slice A2 b.f2.length c2)∧V.cell? ⟨g,1,none⟩=some (.string n1)):=fun V h=>⟨pw_cell_below h C0.out.pc.1,pw_cell_below h C0.out.pc.2.1,pw_cell_below h C0.out.pc.2.2,pw_cell_below h g1⟩
 go_upto_region 22 with ((go_at_call 20;refine (l6Number_any _ _).mono ?_;rintro e w' ⟨rfl,rfl⟩))
 clear g0 g1
 have b0:Hid (Below w1.heap.size w1 w1.drew):=pw_below_drewN (Below.refl _ _) 1
 refine start_ (n:=12) (S:=fun w'=>w'.cell? ⟨w.heap.size,0,none⟩=some (.slice A0 b.f0.length c0)∧w'.cell? ⟨w.heap.size,1,none⟩=some (.slice A1 b.f1.length c1)∧w'.cell? ⟨w.heap.size,2,none⟩=some (.slice A2 b.f2.length c2)∧w'.cell? ⟨g,1,none⟩=some (.string n1)) (ds:=[10,11]) #[false,false,false,false,false,false,false,false,false,false,false,false] (by kernel_rfl) rfl rfl (KS.out _ b0.out) (fun hHeld => ?_)
 refine pureA 1 (h := ?_)
 refine pureA 3 (h := ?_)
 refine pureA 5 (h := ?_)
 refine pureA 6 (h := ?_)
 refine takeA 0 hHeld (h := ?_)
 refine takeA 2 hHeld (h := ?_)
 refine takeA 4 hHeld (h := ?_)
 refine takeA 7 hHeld (h := ?_)
 generalize w1.drew=V0 at hHeld b0 ⊢
 refine oneA 8 (h:=fun K hK => ?_)
 go_simp
 have hrb:=(HI.out.h.below (below_next C0.out.L C0.out.L.size b0.out)).form_D
 refine (spec_runs_any A1 c1 b.f1 A2 c2 b.f2 n1 V0 hrb.2.1 hrb.2.2).mono ?_
 rintro e w2 ⟨v,rfl,hv,hb⟩
 go_simp
 have b2:Hid (Below w1.heap.size w1 w2):=b0.out.trans (hb.mono b0.out.size)
 obtain ⟨AR,cR,rfl⟩:=Kd.R_slice hv
 have HV:=Lib.hid (Kd.R_reads' hv).2.2
 clear hv hb hrb
 refine hK.out _ _ (KS.out _ b2.out) (fun hHeld => ?_)
 clear hK K
 refine oneA 9 (h:=fun K hK => ?_)
 go_simp
 refine (l6Runs_any AR cR (runsB b.f1 b.f2 n1) w2 HV.out (runsB_small b.f1 b.f2 n1) (runsB_few b.f1 b.f2 n1)).mono ?_
 rintro e w3 ⟨rfl,hb⟩
 go_simp
 have b3:Hid (Below w1.heap.size w1 w3):=b2.out.trans (hb.mono b2.out.size)
 have C3:=Lib.hid (C0.out.below b3.out)
 clear hb
 refine hK.out _ _ (KS.out _ b3.out) (fun hHeld => ?_)
 clear hK K
 obtain ⟨⟨cz0,fz0⟩,⟨cz1,fz1⟩,cz2,fz2⟩:=C3.out.zf
 refine lastA 10 (h:=fun K hK => ?_)
 go_simp
 refine hK.out _ _ ?_
 clear hK K
 refine lastA 11 (h:=fun K hK => ?_)
 go_simp
 refine hK.out _ _ ?_
 clear hK K
 refine doneA (h := ?_)
 obtain ⟨ZW,RW,LW⟩:=C3.out.fin (HI.out.h.below C3.out.L)
 try clear cz0 cz1 cz2 fz0 fz1 fz2
 go_wp2
 refine bodyPost_ret (results_ct rfl _ _ (w.heap.size+1) 33 #[.slice A0 b.f0.length c0, .slice A1 b.f1.length c1, .slice A2 b.f2.length c2] (0,0) _ rfl ZW.out Tryz.underlying33 rfl (by kernel_rfl)) rfl ?_
 rw [HL.out]
 exact ⟨_,_,_,rfl,RW.out,LW.out⟩
set_option maxRecDepth 100000 in
set_option maxHeartbeats 16000000 in
theorem line_bound (hI:LineIn base lo g c ok A0 c0 A1 c1 A2 c2 b w ws) (hX:ws.headD ByteArray.empty=tBound) (hl_:ws.length=2):LineOk base g c A0 c0 A1 c1 A2 c2 b w ws:=by
 have HI:=Lib.hid hI
 obtain ⟨hd,hhd⟩:∃ x,x=ws.headD ByteArray.empty:=⟨_,rfl⟩
 obtain ⟨a1,a2,a3,a4,a5,a6,a7,a8⟩:=HF_tBound (hhd.trans hX)
 obtain ⟨_,hbase,hok,hw,hp0,hsz,hlen⟩:=hI
 have e_len:(((ws.length:Nat):Int) == 2)=true:=by rw [hl_];rfl
 have i1:(1:Int)<ws.length:=by omega
 have HHD:=Lib.hid hhd
 have HL:=Lib.hid (lineR_bound (b:=b) hX hl_)
 have LN:=Lib.hid hl_
 obtain ⟨n1,hn1⟩:∃ x,x=ws.getD 1 ByteArray.empty:=⟨_,rfl⟩
 rw [← hn1] at HL
 have N1:=Lib.hid hn1
 clear hn1
 obtain ⟨bd,hbd⟩:∃ x,x=boundP b.f0 b.f1 n1:=⟨_,rfl⟩
 have hbs:=boundP_small b.f0 b.f1 n1
 rw [← hbd] at hbs HL
 have HBD:Hid (boundN b.f0 b.f1 n1=bd):=hbd.symm
 clear hbd
 clear hok hw hsz hhd hX hl_
 unfold LineOk
 have C0:=Lib.hid (LnW.start w (.slice A0 b.f0.length c0) (.slice A1 b.f1.length c1) (.slice A2 b.f2.length c2))
 go_enter Tryz.func9,Tryz.ntmps9
 go_upto_region 1 with (fail)
 rw [← lnStart_eq]
 generalize lnStart w (.slice A0 b.f0.length c0) (.slice A1 b.f1.length c1) (.slice A2 b.f2.length c2)=w1 at C0 ⊢
 have HW1:=Lib.hid (Kd.R_below HI.out.hw C0.out.L)
 have g0:w1.cell? ⟨g,0,none⟩=some (.string hd):=strCell HW1.out 0 (by rw [HHD.out];exact head_get hp0)
 have g1:w1.cell? ⟨g,1,none⟩=some (.string n1):=by rw [N1.out];exact strCell HW1.out 1 (get_word (by have:=LN.out;omega))
 have KS:Hid (∀ V,Below w1.heap.size w1 V→V.cell? ⟨w.heap.size,0,none⟩=some (.slice A0 b.f0.length c0)∧V.cell? ⟨w.heap.size,1,none⟩=some (.slice A1 b.f1.length c1)∧V.cell? ⟨w.heap.size,2,none⟩=some (.slice A2 b.f2.length c2)∧V.cell? ⟨g,1,none⟩=some (.string n1)):=fun V h=>⟨pw_cell_below h C0.out.pc.1,pw_cell_below h C0.out.pc.2.1,pw_cell_below h C0.out.pc.2.2,pw_cell_below h g1⟩
 go_upto_region 24 with ((go_at_call 20;refine (l6Number_any _ _).mono ?_;rintro e w' ⟨rfl,rfl⟩))
 clear g0 g1
 have b0:Hid (Below w1.heap.size w1 w1.drew):=pw_below_drewN (Below.refl _ _) 1
 refine start_ (n:=12) (S:=fun w'=>w'.cell? ⟨w.heap.size,0,none⟩=some (.slice A0 b.f0.length c0)∧w'.cell? ⟨w.heap.size,1,none⟩=some (.slice A1 b.f1.length c1)∧w'.cell? ⟨w.heap.size,2,none⟩=some (.slice A2 b.f2.length c2)∧w'.cell? ⟨g,1,none⟩=some (.string n1)) (ds:=[10,11]) #[false,false,false,false,false,false,false,false,false,false,false,false] (by kernel_rfl) rfl rfl (KS.out _ b0.out) (fun hHeld => ?_)
 refine pureA 1 (h := ?_)
 refine pureA 3 (h := ?_)
 refine pureA 5 (h := ?_)
 refine pureA 6 (h := ?_)
 refine takeA 0 hHeld (h := ?_)
 refine takeA 2 hHeld (h := ?_)
 refine takeA 4 hHeld (h := ?_)
 refine takeA 7 hHeld (h := ?_)
 generalize w1.drew=V0 at hHeld b0 ⊢
 refine oneA 8 (h:=fun K hK => ?_)
 go_simp
 have hrb:=(HI.out.h.below (below_next C0.out.L C0.out.L.size b0.out)).form_D
 refine (spec_bound_any A0 c0 b.f0 A1 c1 b.f1 n1 V0 hrb.1 hrb.2.1).mono ?_
 rintro e w2 ⟨rfl,hb⟩
 rw [HBD.out]
 go_simp
 have b2:Hid (Below w1.heap.size w1 w2):=b0.out.trans (hb.mono b0.out.size)
 clear hb hrb
 refine hK.out _ _ (KS.out _ b2.out) (fun hHeld => ?_)
 clear hK K
 refine oneA 9 (h:=fun K hK => ?_)
 go_simp
 refine (decV_any bd w2 hbs.1 (by omega)).mono ?_
 rintro e w3 ⟨rfl,hb⟩
 go_simp
 have b3:Hid (Below w1.heap.size w1 w3):=b2.out.trans (hb.mono b2.out.size)
 have C3:=Lib.hid (C0.out.below b3.out)
 clear hb
 refine hK.out _ _ (KS.out _ b3.out) (fun hHeld => ?_)
 clear hK K
 obtain ⟨⟨cz0,fz0⟩,⟨cz1,fz1⟩,cz2,fz2⟩:=C3.out.zf
 refine lastA 10 (h:=fun K hK => ?_)
 go_simp
 refine hK.out _ _ ?_
 clear hK K
 refine lastA 11 (h:=fun K hK => ?_)
 go_simp
 refine hK.out _ _ ?_
 clear hK K
 refine doneA (h := ?_)
 obtain ⟨ZW,RW,LW⟩:=C3.out.fin (HI.out.h.below C3.out.L)
 try clear cz0 cz1 cz2 fz0 fz1 fz2
 go_wp2
 refine bodyPost_ret (results_ct rfl _ _ (w.heap.size+1) 33 #[.slice A0 b.f0.length c0, .slice A1 b.f1.length c1, .slice A2 b.f2.length c2] (0,0) _ rfl ZW.out Tryz.underlying33 rfl (by kernel_rfl)) rfl ?_
 rw [HL.out]
 exact ⟨_,_,_,rfl,RW.out,LW.out⟩
end
section
variable {base lo g c:Nat} {ok:Nat→Prop} {A0 A1 A2:Option Addr} {c0 c1 c2:Nat} {b:Book} {w:World} {ws:List ByteArray}
set_option maxRecDepth 100000 in
set_option maxHeartbeats 16000000 in
theorem line_drop (hI:LineIn base lo g c ok A0 c0 A1 c1 A2 c2 b w ws) (hX:ws.headD ByteArray.empty=tDrop) (hl_:ws.length=2):LineOk base g c A0 c0 A1 c1 A2 c2 b w ws:=by
 have HI:=Lib.hid hI
 obtain ⟨hd,hhd⟩:∃ x,x=ws.headD ByteArray.empty:=⟨_,rfl⟩
 obtain ⟨a1,a2,a3,a4,a5,a6,a7,a8⟩:=HF_tDrop (hhd.trans hX)
 obtain ⟨_,hbase,hok,hw,hp0,hsz,hlen⟩:=hI
 have e_len:(((ws.length:Nat):Int) == 2)=true:=by rw [hl_];rfl
 have i1:(1:Int)<ws.length:=by omega
 have HHD:=Lib.hid hhd
 have HL:=Lib.hid (lineR_drop (b:=b) hX hl_)
 have LN:=Lib.hid hl_
 obtain ⟨n1,hn1⟩:∃ x,x=ws.getD 1 ByteArray.empty:=⟨_,rfl⟩
 rw [← hn1] at HL
 have N1:=Lib.hid hn1
 clear hn1
 clear hok hw hsz hhd hX hl_
 unfold LineOk
 have C0:=Lib.hid (LnW.start w (.slice A0 b.f0.length c0) (.slice A1 b.f1.length c1) (.slice A2 b.f2.length c2))
 go_enter Tryz.func9,Tryz.ntmps9
 go_upto_region 1 with (fail)
 rw [← lnStart_eq]
 generalize lnStart w (.slice A0 b.f0.length c0) (.slice A1 b.f1.length c1) (.slice A2 b.f2.length c2)=w1 at C0 ⊢
 have HW1:=Lib.hid (Kd.R_below HI.out.hw C0.out.L)
 have g0:w1.cell? ⟨g,0,none⟩=some (.string hd):=strCell HW1.out 0 (by rw [HHD.out];exact head_get hp0)
 have g1:w1.cell? ⟨g,1,none⟩=some (.string n1):=by rw [N1.out];exact strCell HW1.out 1 (get_word (by have:=LN.out;omega))
 have KS:Hid (∀ V,Below w1.heap.size w1 V→V.cell? ⟨w.heap.size,0,none⟩=some (.slice A0 b.f0.length c0)∧V.cell? ⟨w.heap.size,1,none⟩=some (.slice A1 b.f1.length c1)∧V.cell? ⟨w.heap.size,2,none⟩=some (.slice A2 b.f2.length c2)∧V.cell? ⟨g,1,none⟩=some (.string n1)):=fun V h=>⟨pw_cell_below h C0.out.pc.1,pw_cell_below h C0.out.pc.2.1,pw_cell_below h C0.out.pc.2.2,pw_cell_below h g1⟩
 go_upto_region 10 with ((go_at_call 20;refine (l6Number_any _ _).mono ?_;rintro e w' ⟨rfl,rfl⟩))
 clear g0 g1
 go_cut [10,11] (fun s6 s7 wx=>∃ (T:Nat) (B0:Option Addr) (d0:Nat) (B1:Option Addr) (d1:Nat) (B2:Option Addr) (d2:Nat),s6 = .pointer (some ⟨T,0,none⟩)∧s7 = .int .i64 (dropR b n1).2∧Hid (LnW w wx (.slice A0 b.f0.length c0) (.slice A1 b.f1.length c1) (.slice A2 b.f2.length c2))∧Hid (RdB wx base (.slice B0 (dropR b n1).1.f0.length d0) (.slice B1 (dropR b n1).1.f1.length d1) (.slice B2 (dropR b n1).1.f2.length d2) (dropR b n1).1)∧Hid (wx.heap[T]? = some (.cells #[.slice B0 (dropR b n1).1.f0.length d0, .slice B1 (dropR b n1).1.f1.length d1, .slice B2 (dropR b n1).1.f2.length d2] 33 (0,0))))
 case first =>
  have b0:Hid (Below w1.heap.size w1 w1.drew):=pw_below_drewN (Below.refl _ _) 1
  refine start_ (n:=11) (S:=fun w'=>w'.cell? ⟨w.heap.size,0,none⟩=some (.slice A0 b.f0.length c0)∧w'.cell? ⟨w.heap.size,1,none⟩=some (.slice A1 b.f1.length c1)∧w'.cell? ⟨w.heap.size,2,none⟩=some (.slice A2 b.f2.length c2)∧w'.cell? ⟨g,1,none⟩=some (.string n1)) (ds:=[9]) #[false,false,false,false,false,false,false,false,false,false,false] (by kernel_rfl) rfl rfl (KS.out _ b0.out) (fun hHeld => ?_)
  refine pureA 1 (h := ?_)
  refine pureA 2 (h := ?_)
  refine takeA 0 hHeld (h := ?_)
  refine takeA 3 hHeld (h := ?_)
  generalize w1.drew=V0 at hHeld b0 ⊢
  refine twoA 4 8 (h1:=fun K hK => ?_) (h2:=fun K hK => ?_)
  ·go_simp
   have hrb:=(HI.out.h.below (below_next C0.out.L C0.out.L.size b0.out)).form_D
   have hV:base≤V0.heap.size:=Nat.le_trans hbase (Nat.le_trans C0.out.L.size b0.out.size)
   refine (spec_flowDrop_any A0 c0 A1 c1 A2 c2 b n1 V0 hrb.1 hrb.2.1 hrb.2.2).mono ?_
   rintro e V1 ⟨u0,u1,u2,rfl,ho,hb⟩
   go_simp
   have bb1:=Lib.hid (below_next b0.out b0.out.size hb)
   have hr:=ho.rd.lower hV
   obtain ⟨B0,d0,B1,d1,B2,d2,rfl,rfl,rfl⟩:=hr.form
   have hN1:=Lib.hid hr
   clear hr ho hb hrb hV
   refine hK.out _ _ (KS.out _ bb1.out) (fun hHeld => ?_)
   clear hK K
   refine pureA 5 (h := ?_)
   refine pureA 6 (h := ?_)
   refine pureA 7 (h := ?_)
   refine oneA 8 (h:=fun K hK => ?_)
   go_simp
   refine hK.out _ _ (KS.out _ (below_alloc bb1.out _)) (fun hHeld => ?_)
   clear hK K
   have bb3:Hid (Below w1.heap.size w1 (V1.alloc (.cells #[.slice none 0 0, .slice none 0 0, .slice none 0 0] 33))):=below_alloc bb1.out _
   have ha:Below V1.heap.size V1 (V1.alloc (.cells #[.slice none 0 0, .slice none 0 0, .slice none 0 0] 33)):=below_alloc (Below.refl _ _) _
   have hN3:=Lib.hid (RdB.below hN1.out ha)
   have y3:Hid ((V1.alloc (.cells #[.slice none 0 0, .slice none 0 0, .slice none 0 0] 33)).heap[V1.heap.size]? = some (.cells #[.slice none 0 0, .slice none 0 0, .slice none 0 0] 33 (0,0))):=blk_new _ _
   have hg3:Hid (w1.heap.size≤V1.heap.size):=bb1.out.size
   clear ha
   obtain ⟨V3,eV3⟩:∃ V,V=V1.alloc (.cells #[.slice none 0 0, .slice none 0 0, .slice none 0 0] 33):=⟨_,rfl⟩
   rw [← eV3] at bb3 hHeld y3 hN3 ⊢
   clear eV3
   have pb0:=blk_frozen y3.out 0
   have cb0:=(blk_cell y3.out 0).trans rfl
   have pb1:=blk_frozen y3.out 1
   have cb1:=(blk_cell y3.out 1).trans rfl
   have pb2:=blk_frozen y3.out 2
   have cb2:=(blk_cell y3.out 2).trans rfl
   refine lastA 9 (h:=fun K hK => ?_)
   go_simp
   refine hK.out _ _ ?_
   clear hK K
   refine pureA 10 (h := ?_)
   refine doneA (h := ?_)
   go_wp2_with (fail)
   go_meet
   have e1:=blk_set y3.out 0 (.slice B0 (dropR b n1).1.f0.length d0)
   have e2:=blk_set e1 1 (.slice B1 (dropR b n1).1.f1.length d1)
   have e3:=blk_set e2 2 (.slice B2 (dropR b n1).1.f2.length d2)
   exact ⟨V1.heap.size,B0,d0,B1,d1,B2,d2,rfl,rfl,LnW.below C0.out (((bb3.out.setCell (p:=⟨V1.heap.size,0,none⟩) hg3.out _).setCell (p:=⟨V1.heap.size,1,none⟩) hg3.out _).setCell (p:=⟨V1.heap.size,2,none⟩) hg3.out _),RdB.cell3 hN3.out y3.out _ _ _,e3⟩
  ·go_simp
   refine hK.out _ _ (KS.out _ (below_alloc b0.out _)) (fun hHeld => ?_)
   clear hK K
   have bb2:Hid (Below w1.heap.size w1 (V0.alloc (.cells #[.slice none 0 0, .slice none 0 0, .slice none 0 0] 33))):=below_alloc b0.out _
   have ha:Below V0.heap.size V0 (V0.alloc (.cells #[.slice none 0 0, .slice none 0 0, .slice none 0 0] 33)):=below_alloc (Below.refl _ _) _
   have y2:Hid ((V0.alloc (.cells #[.slice none 0 0, .slice none 0 0, .slice none 0 0] 33)).heap[V0.heap.size]? = some (.cells #[.slice none 0 0, .slice none 0 0, .slice none 0 0] 33 (0,0))):=blk_new _ _
   have hg2:Hid (w1.heap.size≤V0.heap.size):=b0.out.size
   clear ha
   obtain ⟨V2,eV2⟩:∃ V,V=V0.alloc (.cells #[.slice none 0 0, .slice none 0 0, .slice none 0 0] 33):=⟨_,rfl⟩
   rw [← eV2] at bb2 hHeld y2 ⊢
   clear eV2
   refine oneA 4 (h:=fun K hK => ?_)
   go_simp
   have hrb:=(HI.out.h.below (below_next C0.out.L C0.out.L.size bb2.out)).form_D
   have hV:base≤V2.heap.size:=Nat.le_trans hbase (Nat.le_trans C0.out.L.size bb2.out.size)
   refine (spec_flowDrop_any A0 c0 A1 c1 A2 c2 b n1 V2 hrb.1 hrb.2.1 hrb.2.2).mono ?_
   rintro e V4 ⟨u0,u1,u2,rfl,ho,hb⟩
   go_simp
   have bb4:=Lib.hid (below_next bb2.out bb2.out.size hb)
   have y4:=Lib.hid (blk_below y2.out hb)
   have hr:=ho.rd.lower hV
   obtain ⟨B0,d0,B1,d1,B2,d2,rfl,rfl,rfl⟩:=hr.form
   have hN4:=Lib.hid hr
   clear hr ho hb hrb hV
   refine hK.out _ _ (KS.out _ bb4.out) (fun hHeld => ?_)
   clear hK K
   refine pureA 5 (h := ?_)
   refine pureA 6 (h := ?_)
   refine pureA 7 (h := ?_)
   have pb0:=blk_frozen y4.out 0
   have cb0:=(blk_cell y4.out 0).trans rfl
   have pb1:=blk_frozen y4.out 1
   have cb1:=(blk_cell y4.out 1).trans rfl
   have pb2:=blk_frozen y4.out 2
   have cb2:=(blk_cell y4.out 2).trans rfl
   refine lastA 9 (h:=fun K hK => ?_)
   go_simp
   refine hK.out _ _ ?_
   clear hK K
   refine pureA 10 (h := ?_)
   refine doneA (h := ?_)
   go_wp2_with (fail)
   go_meet
   have e1:=blk_set y4.out 0 (.slice B0 (dropR b n1).1.f0.length d0)
   have e2:=blk_set e1 1 (.slice B1 (dropR b n1).1.f1.length d1)
   have e3:=blk_set e2 2 (.slice B2 (dropR b n1).1.f2.length d2)
   exact ⟨V0.heap.size,B0,d0,B1,d1,B2,d2,rfl,rfl,LnW.below C0.out (((bb4.out.setCell (p:=⟨V0.heap.size,0,none⟩) hg2.out _).setCell (p:=⟨V0.heap.size,1,none⟩) hg2.out _).setCell (p:=⟨V0.heap.size,2,none⟩) hg2.out _),RdB.cell3 hN4.out y4.out _ _ _,e3⟩
 case rest =>
 obtain ⟨T,B0,d0,B1,d1,B2,d2,rfl,rfl,C3,R3,X_w3⟩:=hcut
 obtain ⟨w3,hw3⟩:∃ V,V=wc:=⟨_,rfl⟩
 subst hw3
 clear KS C0
 go_upto_region 11 with (fail)
 have KS:Hid (∀ V,Below w3.heap.size w3 V→V.cell? ⟨T,0,none⟩=some (.slice B0 (dropR b n1).1.f0.length d0)∧V.cell? ⟨T,1,none⟩=some (.slice B1 (dropR b n1).1.f1.length d1)∧V.cell? ⟨T,2,none⟩=some (.slice B2 (dropR b n1).1.f2.length d2)):=fun V h=>⟨pw_cell_below h ((blk_cell X_w3.out 0).trans rfl),pw_cell_below h ((blk_cell X_w3.out 1).trans rfl),pw_cell_below h ((blk_cell X_w3.out 2).trans rfl)⟩
 have bt:Hid (Below w3.heap.size w3 w3.drew):=pw_below_drewN (Below.refl _ _) 1
 refine start_ (n:=6) (S:=fun w'=>w'.cell? ⟨T,0,none⟩=some (.slice B0 (dropR b n1).1.f0.length d0)∧w'.cell? ⟨T,1,none⟩=some (.slice B1 (dropR b n1).1.f1.length d1)∧w'.cell? ⟨T,2,none⟩=some (.slice B2 (dropR b n1).1.f2.length d2)) (ds:=[4,5]) #[false,false,false,false,false,false] (by kernel_rfl) rfl rfl (KS.out _ bt.out) (fun hHeld => ?_)
 refine pureA 1 (h := ?_)
 refine takeA 0 hHeld (h := ?_)
 generalize w3.drew=V9 at hHeld bt ⊢
 refine oneA 2 (h:=fun K hK => ?_)
 go_simp
 have hcode:=dropR_code b n1
 refine (decV_any ((dropR b n1).2) V9 hcode.1 (by omega)).mono ?_
 rintro e w9 ⟨rfl,hb⟩
 go_simp
 have b9:Hid (Below w3.heap.size w3 w9):=bt.out.trans (hb.mono bt.out.size)
 have C9:=Lib.hid (C3.out.below b9.out)
 have hsz9:=decS_size (n:=(dropR b n1).2) hcode.1 (by omega)
 have hds:¬ (9223372036854775807:Nat)<5+(decS ((dropR b n1).2)).size:=by omega
 clear hb hcode hsz9
 refine hK.out _ _ (KS.out _ b9.out) (fun hHeld => ?_)
 clear hK K
 refine pureA 3 (h := ?_)
 obtain ⟨⟨cz0,fz0⟩,⟨cz1,fz1⟩,cz2,fz2⟩:=C9.out.zf
 refine lastA 4 (h:=fun K hK => ?_)
 go_simp
 refine hK.out _ _ ?_
 clear hK K
 refine lastA 5 (h:=fun K hK => ?_)
 go_simp
 refine hK.out _ _ ?_
 clear hK K
 refine doneA (h := ?_)
 obtain ⟨ZW,RW,LW⟩:=C9.out.fin (R3.out.below b9.out)
 try clear cz0 cz1 cz2 fz0 fz1 fz2
 go_wp2
 refine bodyPost_ret (results_ct rfl _ _ (w.heap.size+1) 33 #[.slice B0 (dropR b n1).1.f0.length d0, .slice B1 (dropR b n1).1.f1.length d1, .slice B2 (dropR b n1).1.f2.length d2] (0,0) _ rfl ZW.out Tryz.underlying33 rfl (by kernel_rfl)) rfl ?_
 rw [HL.out]
 exact ⟨_,_,_,rfl,RW.out,LW.out⟩
set_option maxRecDepth 100000 in
set_option maxHeartbeats 16000000 in
theorem line_compress (hI:LineIn base lo g c ok A0 c0 A1 c1 A2 c2 b w ws) (hX:ws.headD ByteArray.empty=tCompress) (hl_:ws.length=1):LineOk base g c A0 c0 A1 c1 A2 c2 b w ws:=by
 have HI:=Lib.hid hI
 obtain ⟨hd,hhd⟩:∃ x,x=ws.headD ByteArray.empty:=⟨_,rfl⟩
 obtain ⟨a1,a2,a3,a4,a5,a6,a7,a8⟩:=HF_tCompress (hhd.trans hX)
 obtain ⟨_,hbase,hok,hw,hp0,hsz,hlen⟩:=hI
 have e_len:(((ws.length:Nat):Int) == 1)=true:=by rw [hl_];rfl
 have HHD:=Lib.hid hhd
 have HL:=Lib.hid (lineR_compress (b:=b) (one_word hX hl_))
 clear hok hw hsz hhd hX hl_
 unfold LineOk
 have C0:=Lib.hid (LnW.start w (.slice A0 b.f0.length c0) (.slice A1 b.f1.length c1) (.slice A2 b.f2.length c2))
 go_enter Tryz.func9,Tryz.ntmps9
 go_upto_region 1 with (fail)
 rw [← lnStart_eq]
 generalize lnStart w (.slice A0 b.f0.length c0) (.slice A1 b.f1.length c1) (.slice A2 b.f2.length c2)=w1 at C0 ⊢
 have HW1:=Lib.hid (Kd.R_below HI.out.hw C0.out.L)
 have g0:w1.cell? ⟨g,0,none⟩=some (.string hd):=strCell HW1.out 0 (by rw [HHD.out];exact head_get hp0)
 have hrb:=(HI.out.h.below C0.out.L).form_D
 have hV:base≤w1.heap.size:=Nat.le_trans hbase C0.out.L.size
 obtain ⟨cb0,cb1,cb2⟩:=C0.out.pc
 have QC:=Lib.hid (spec_flowCompress_any A0 c0 A1 c1 A2 c2 b w1 hrb.1 hrb.2.1 hrb.2.2)
 clear hrb
 go_wp2_with ((go_at_call 20;refine (l6Number_any _ _).mono ?_;rintro e w' ⟨rfl,rfl⟩))
 refine QC.out.mono ?_
 rintro e w2 ⟨u0,u1,u2,rfl,ho,hb⟩
 rw [compressR_ok HI.out.hok] at ho
 have hr:=ho.rd.lower hV
 obtain ⟨B0,d0,B1,d1,B2,d2,rfl,rfl,rfl⟩:=hr.form
 have RD:=Lib.hid hr
 have C2:=Lib.hid (C0.out.below hb)
 clear hr ho hb QC hV cb0 cb1 cb2 g0 C0
 have XN:=blk_new w2 (.cells #[.slice none 0 0, .slice none 0 0, .slice none 0 0] 33)
 have cx0:=(blk_cell XN 0).trans rfl
 have cx1:=(blk_cell XN 1).trans rfl
 have cx2:=(blk_cell XN 2).trans rfl
 have fx0:=blk_frozen XN 0
 have fx1:=blk_frozen XN 1
 have fx2:=blk_frozen XN 2
 clear XN
 go_upto_region 14 with (fail)
 have C3:=Lib.hid (C2.out.below (below_alloc (Below.refl w2.heap.size w2) (.cells #[(.slice B0 (compB b).f0.length d0),(.slice B1 (compB b).f1.length d1),(.slice B2 (compB b).f2.length d2)] 33)))
 have R3:=Lib.hid ((RD.out).below (below_alloc (Below.refl w2.heap.size w2) (.cells #[(.slice B0 (compB b).f0.length d0),(.slice B1 (compB b).f1.length d1),(.slice B2 (compB b).f2.length d2)] 33)))
 have X_w3:=Lib.hid (blk_new w2 (.cells #[(.slice B0 (compB b).f0.length d0),(.slice B1 (compB b).f1.length d1),(.slice B2 (compB b).f2.length d2)] 33))
 try clear cx0 cx1 cx2 fx0 fx1 fx2
 obtain ⟨w3,hw3⟩:∃ V,V=w2.alloc (.cells #[.slice B0 (compB b).f0.length d0, .slice B1 (compB b).f1.length d1, .slice B2 (compB b).f2.length d2] 33):=⟨_,rfl⟩
 rw [← hw3] at C3 R3 X_w3 ⊢
 clear hw3
 obtain ⟨T,hT⟩:∃ n,n=w2.heap.size:=⟨_,rfl⟩
 rw [← hT] at X_w3 ⊢
 clear hT
 clear C2 RD
 have KS:Hid (∀ V,Below w3.heap.size w3 V→V.cell? ⟨T,0,none⟩=some (.slice B0 (compB b).f0.length d0)∧V.cell? ⟨T,1,none⟩=some (.slice B1 (compB b).f1.length d1)∧V.cell? ⟨T,2,none⟩=some (.slice B2 (compB b).f2.length d2)):=fun V h=>⟨pw_cell_below h ((blk_cell X_w3.out 0).trans rfl),pw_cell_below h ((blk_cell X_w3.out 1).trans rfl),pw_cell_below h ((blk_cell X_w3.out 2).trans rfl)⟩
 have bt:Hid (Below w3.heap.size w3 w3.drew):=pw_below_drewN (Below.refl _ _) 1
 refine start_ (n:=5) (S:=fun w'=>w'.cell? ⟨T,0,none⟩=some (.slice B0 (compB b).f0.length d0)∧w'.cell? ⟨T,1,none⟩=some (.slice B1 (compB b).f1.length d1)∧w'.cell? ⟨T,2,none⟩=some (.slice B2 (compB b).f2.length d2)) (ds:=[3,4]) #[false,false,false,false,false] (by kernel_rfl) rfl rfl (KS.out _ bt.out) (fun hHeld => ?_)
 refine takeA 0 hHeld (h := ?_)
 refine takeA 1 hHeld (h := ?_)
 generalize w3.drew=V9 at hHeld bt ⊢
 refine oneA 2 (h:=fun K hK => ?_)
 go_simp
 have hrb:=(R3.out.below bt.out).form_D
 refine (l6Slots_any B0 d0 B1 d1 B2 d2 (compB b) V9 hrb.2.1 hrb.2.2 (compB_ok HI.out.hok)).mono ?_
 rintro e w9 ⟨rfl,hb⟩
 go_simp
 have b9:Hid (Below w3.heap.size w3 w9):=bt.out.trans (hb.mono bt.out.size)
 have C9:=Lib.hid (C3.out.below b9.out)
 clear hb hrb
 refine hK.out _ _ (KS.out _ b9.out) (fun hHeld => ?_)
 clear hK K
 obtain ⟨⟨cz0,fz0⟩,⟨cz1,fz1⟩,cz2,fz2⟩:=C9.out.zf
 refine lastA 3 (h:=fun K hK => ?_)
 go_simp
 refine hK.out _ _ ?_
 clear hK K
 refine lastA 4 (h:=fun K hK => ?_)
 go_simp
 refine hK.out _ _ ?_
 clear hK K
 refine doneA (h := ?_)
 obtain ⟨ZW,RW,LW⟩:=C9.out.fin (R3.out.below b9.out)
 try clear cz0 cz1 cz2 fz0 fz1 fz2
 go_wp2
 refine bodyPost_ret (results_ct rfl _ _ (w.heap.size+1) 33 #[.slice B0 (compB b).f0.length d0, .slice B1 (compB b).f1.length d1, .slice B2 (compB b).f2.length d2] (0,0) _ rfl ZW.out Tryz.underlying33 rfl (by kernel_rfl)) rfl ?_
 rw [HL.out]
 exact ⟨_,_,_,rfl,RW.out,LW.out⟩
set_option maxRecDepth 100000 in
set_option maxHeartbeats 16000000 in
theorem line_again (hI:LineIn base lo g c ok A0 c0 A1 c1 A2 c2 b w ws) (hX:ws.headD ByteArray.empty=tAgain) (hl_:ws.length=1):LineOk base g c A0 c0 A1 c1 A2 c2 b w ws:=by
 have HI:=Lib.hid hI
 obtain ⟨hd,hhd⟩:∃ x,x=ws.headD ByteArray.empty:=⟨_,rfl⟩
 obtain ⟨a1,a2,a3,a4,a5,a6,a7,a8⟩:=HF_tAgain (hhd.trans hX)
 obtain ⟨_,hbase,hok,hw,hp0,hsz,hlen⟩:=hI
 have e_len:(((ws.length:Nat):Int) == 1)=true:=by rw [hl_];rfl
 have HHD:=Lib.hid hhd
 have HL:=Lib.hid (lineR_again (b:=b) (one_word hX hl_))
 have HG:Hid (okB ⟨b.f0,b.f1,giveB b.f0 b.f1⟩=true):=giveB_fits (fitsB_parts hok).1 (slotsB_parts (fitsB_parts hok).2.1).1
 obtain ⟨m0,m1,m2,m3⟩:=fits_small (show fitsB b.f0 b.f1 b.f2=true from hok)
 clear hok hw hsz hhd hX hl_
 unfold LineOk
 have C0:=Lib.hid (LnW.start w (.slice A0 b.f0.length c0) (.slice A1 b.f1.length c1) (.slice A2 b.f2.length c2))
 go_enter Tryz.func9,Tryz.ntmps9
 go_upto_region 1 with (fail)
 rw [← lnStart_eq]
 generalize lnStart w (.slice A0 b.f0.length c0) (.slice A1 b.f1.length c1) (.slice A2 b.f2.length c2)=w1 at C0 ⊢
 have HW1:=Lib.hid (Kd.R_below HI.out.hw C0.out.L)
 have g0:w1.cell? ⟨g,0,none⟩=some (.string hd):=strCell HW1.out 0 (by rw [HHD.out];exact head_get hp0)
 have hrb:=(HI.out.h.below C0.out.L).form_D
 obtain ⟨cb0,cb1,cb2⟩:=C0.out.pc
 have QC:=Lib.hid (spec_copy_any A0 c0 A1 c1 A2 c2 b w1 hrb.1 hrb.2.1 hrb.2.2 m0 m1 m2 m3)
 clear hrb m0 m1 m2 m3
 go_wp2_with ((go_at_call 20;refine (l6Number_any _ _).mono ?_;rintro e w' ⟨rfl,rfl⟩))
 refine QC.out.mono ?_
 rintro e w2 ⟨u0,u1,u2,rfl,ho,hb⟩
 have hV:base≤w1.heap.size:=Nat.le_trans hbase C0.out.L.size
 have hr:=ho.rd.lower hV
 obtain ⟨B0,d0,B1,d1,B2,d2,rfl,rfl,rfl⟩:=hr.form
 have RD:=Lib.hid hr
 have b2:=Lib.hid hb
 clear hr ho hb QC hV cb0 cb1 cb2 g0
 go_upto_region 17 with (fail)
 have b3:Hid (Below w1.heap.size w1 (w2.alloc (.cells #[.slice B0 b.f0.length d0, .slice B1 b.f1.length d1, .slice B2 b.f2.length d2] 33))):=below_alloc b2.out _
 have R3:=Lib.hid (RD.out.below (below_alloc (Below.refl w2.heap.size w2) (.cells #[(.slice B0 b.f0.length d0),(.slice B1 b.f1.length d1),(.slice B2 b.f2.length d2)] 33)))
 have X3:=Lib.hid (blk_new w2 (.cells #[(.slice B0 b.f0.length d0),(.slice B1 b.f1.length d1),(.slice B2 b.f2.length d2)] 33))
 have hTw:Hid (w1.heap.size≤w2.heap.size):=b2.out.size
 obtain ⟨w3,hw3⟩:∃ V,V=w2.alloc (.cells #[.slice B0 b.f0.length d0, .slice B1 b.f1.length d1, .slice B2 b.f2.length d2] 33):=⟨_,rfl⟩
 rw [← hw3] at b3 R3 X3 ⊢
 clear hw3
 obtain ⟨T,hT⟩:∃ n,n=w2.heap.size:=⟨_,rfl⟩
 rw [← hT] at X3 hTw ⊢
 clear hT b2 RD
 have C3:=Lib.hid (C0.out.below b3.out)
 have hrb:=(HI.out.h.below C3.out.L).form_D
 have cb0:=(blk_cell C3.out.P 0).trans rfl
 have cb1:=(blk_cell C3.out.P 1).trans rfl
 have QG:=Lib.hid (spec_give_any A0 c0 b.f0 A1 c1 b.f1 w3 hrb.1 hrb.2.1)
 clear hrb
 go_wp2_with (fail)
 refine QG.out.mono ?_
 rintro e w4 ⟨v,rfl,hv,hb⟩
 obtain ⟨AG,cG,rfl⟩:=Kd.R_slice hv
 have hV:base≤w3.heap.size:=Nat.le_trans hbase C3.out.L.size
 have HV:=Lib.hid (Kd.R_lower hv hV)
 have X4:=Lib.hid (blk_below X3.out hb)
 have b4:=Lib.hid (below_next b3.out b3.out.size hb)
 have R4:=Lib.hid (R3.out.below hb)
 clear hv hb QG hV cb0 cb1 X3 C3 R3 b3
 have cx2:=(blk_cell X4.out 2).trans rfl
 have fx2:=blk_frozen X4.out 2
 go_upto_region 18 with (fail)
 have r4:RdB w4 base (.slice B0 b.f0.length d0) (.slice B1 b.f1.length d1) (.slice AG (giveB b.f0 b.f1).length cG) (⟨b.f0,b.f1,giveB b.f0 b.f1⟩:Book):=⟨R4.out.caps,R4.out.flights,HV.out⟩
 have R5:=Lib.hid (r4.cell X4.out 2 (.slice AG (giveB b.f0 b.f1).length cG))
 have X5:Hid ((w4.setCell ⟨T,2,none⟩ (.slice AG (giveB b.f0 b.f1).length cG)).heap[T]? = some (.cells #[.slice B0 b.f0.length d0, .slice B1 b.f1.length d1, .slice AG (giveB b.f0 b.f1).length cG] 33 (0,0))):=blk_set X4.out 2 (.slice AG (giveB b.f0 b.f1).length cG)
 have C5:=Lib.hid (C0.out.below (b4.out.setCell (p:=⟨T,2,none⟩) hTw.out (.slice AG (giveB b.f0 b.f1).length cG)))
 clear cx2 fx2 r4 R4 X4 b4 HV C0 hTw
 obtain ⟨w5,hw5⟩:∃ V,V=w4.setCell ⟨T,2,none⟩ (.slice AG (giveB b.f0 b.f1).length cG):=⟨_,rfl⟩
 rw [← hw5] at R5 X5 C5 ⊢
 clear hw5
 have KS:Hid (∀ V,Below w5.heap.size w5 V→V.cell? ⟨T,0,none⟩=some (.slice B0 b.f0.length d0)∧V.cell? ⟨T,1,none⟩=some (.slice B1 b.f1.length d1)∧V.cell? ⟨T,2,none⟩=some (.slice AG (giveB b.f0 b.f1).length cG)):=fun V h=>⟨pw_cell_below h ((blk_cell X5.out 0).trans rfl),pw_cell_below h ((blk_cell X5.out 1).trans rfl),pw_cell_below h ((blk_cell X5.out 2).trans rfl)⟩
 have bt:Hid (Below w5.heap.size w5 w5.drew):=pw_below_drewN (Below.refl _ _) 1
 refine start_ (n:=5) (S:=fun w'=>w'.cell? ⟨T,0,none⟩=some (.slice B0 b.f0.length d0)∧w'.cell? ⟨T,1,none⟩=some (.slice B1 b.f1.length d1)∧w'.cell? ⟨T,2,none⟩=some (.slice AG (giveB b.f0 b.f1).length cG)) (ds:=[3,4]) #[false,false,false,false,false] (by kernel_rfl) rfl rfl (KS.out _ bt.out) (fun hHeld => ?_)
 refine takeA 0 hHeld (h := ?_)
 refine takeA 1 hHeld (h := ?_)
 generalize w5.drew=V9 at hHeld bt ⊢
 refine oneA 2 (h:=fun K hK => ?_)
 go_simp
 have hrb:=(R5.out.below bt.out).form_D
 refine (l6Slots_any B0 d0 B1 d1 AG cG (⟨b.f0,b.f1,giveB b.f0 b.f1⟩:Book) V9 hrb.2.1 hrb.2.2 HG.out).mono ?_
 rintro e w9 ⟨rfl,hb⟩
 go_simp
 have b9:Hid (Below w5.heap.size w5 w9):=bt.out.trans (hb.mono bt.out.size)
 have C9:=Lib.hid (C5.out.below b9.out)
 clear hb hrb
 refine hK.out _ _ (KS.out _ b9.out) (fun hHeld => ?_)
 clear hK K
 obtain ⟨⟨cz0,fz0⟩,⟨cz1,fz1⟩,cz2,fz2⟩:=C9.out.zf
 refine lastA 3 (h:=fun K hK => ?_)
 go_simp
 refine hK.out _ _ ?_
 clear hK K
 refine lastA 4 (h:=fun K hK => ?_)
 go_simp
 refine hK.out _ _ ?_
 clear hK K
 refine doneA (h := ?_)
 obtain ⟨ZW,RW,LW⟩:=C9.out.fin (R5.out.below b9.out)
 try clear cz0 cz1 cz2 fz0 fz1 fz2
 go_wp2
 refine bodyPost_ret (results_ct rfl _ _ (w.heap.size+1) 33 #[.slice B0 b.f0.length d0, .slice B1 b.f1.length d1, .slice AG (giveB b.f0 b.f1).length cG] (0,0) _ rfl ZW.out Tryz.underlying33 rfl (by kernel_rfl)) rfl ?_
 rw [HL.out]
 exact ⟨_,_,_,rfl,RW.out,LW.out⟩
set_option maxRecDepth 100000 in
set_option maxHeartbeats 16000000 in
theorem line_add (hI:LineIn base lo g c ok A0 c0 A1 c1 A2 c2 b w ws) (hX:ws.headD ByteArray.empty=tAdd) (h5:5≤ws.length) (hn2:¬ numB (ws.getD 2 ByteArray.empty)<0) (hn3:¬ numB (ws.getD 3 ByteArray.empty)<0):LineOk base g c A0 c0 A1 c1 A2 c2 b w ws:=by
 have HI:=Lib.hid hI
 obtain ⟨hd,hhd⟩:∃ x,x=ws.headD ByteArray.empty:=⟨_,rfl⟩
 obtain ⟨a1,a2,a3,a4,a5,a6,a7,a8⟩:=HF_tAdd (hhd.trans hX)
 obtain ⟨_,hbase,hok,hw,hp0,hsz,hlen⟩:=hI
 have e_len:decide (((ws.length:Nat):Int) > 4)=true:=decide_eq_true (by omega)
 have e_len2:decide ((4:Int)<((ws.length:Nat):Int))=true:=decide_eq_true (by omega)
 have i1:(1:Int)<ws.length:=by omega
 have i2:(2:Int)<ws.length:=by omega
 have i3:(3:Int)<ws.length:=by omega
 have HHD:=Lib.hid hhd
 have HB2:=Lib.hid hn2
 have HB3:=Lib.hid hn3
 have HL:=Lib.hid (lineR_add (b:=b) hX h5)
 have LN:=Lib.hid h5
 obtain ⟨_,hcap,hC⟩:=Kd.R_reads' hw
 have HCP:=Lib.hid (C_words4 (n:=ws.length-4) hC h5 hcap rfl)
 have t4:(4:Int)≤ws.length:=by omega
 have t4c:(ws.length:Int)≤c:=by omega
 have hc4:¬ c=4:=by omega
 have hdl:ws.length-4=(ws.drop 4).length:=List.length_drop.symm
 have hlD:(ws.drop 4).length≤1000000:=by omega
 obtain ⟨D,hD⟩:∃ D,D=ws.drop 4:=⟨_,rfl⟩
 rw [← hD] at HCP hdl hlD
 have HDD:=Lib.hid hD
 have HDL:=Lib.hid hdl
 have HLD:=Lib.hid hlD
 have HSD:Hid (∀ s∈D,s.size≤1000000):=fun s hs=>hsz s (List.mem_of_mem_drop (by rw [hD] at hs;exact hs))
 obtain ⟨n1,hq1⟩:∃ x,x=ws.getD 1 ByteArray.empty:=⟨_,rfl⟩
 have N1:=Lib.hid hq1
 clear hq1
 obtain ⟨n2,hq2⟩:∃ x,x=ws.getD 2 ByteArray.empty:=⟨_,rfl⟩
 rw [← hq2] at hn2
 have f2:decide (numB n2 ≥ 0)=true:=decide_eq_true (by omega)
 have f2':decide (0≤numB n2)=true:=decide_eq_true (by omega)
 have N2:=Lib.hid hq2
 clear hq2
 obtain ⟨n3,hq3⟩:∃ x,x=ws.getD 3 ByteArray.empty:=⟨_,rfl⟩
 rw [← hq3] at hn3
 have f3:decide (numB n3 ≥ 0)=true:=decide_eq_true (by omega)
 have f3':decide (0≤numB n3)=true:=decide_eq_true (by omega)
 have N3:=Lib.hid hq3
 clear hq3
 clear hC hdl hlD hD
 clear hok hw hsz hhd hX hn2 hn3
 unfold LineOk
 have C0:=Lib.hid (LnW.start w (.slice A0 b.f0.length c0) (.slice A1 b.f1.length c1) (.slice A2 b.f2.length c2))
 go_enter Tryz.func9,Tryz.ntmps9
 go_upto_region 1 with (fail)
 rw [← lnStart_eq]
 generalize lnStart w (.slice A0 b.f0.length c0) (.slice A1 b.f1.length c1) (.slice A2 b.f2.length c2)=w1 at C0 ⊢
 have HW1:=Lib.hid (Kd.R_below HI.out.hw C0.out.L)
 have g0:w1.cell? ⟨g,0,none⟩=some (.string hd):=strCell HW1.out 0 (by rw [HHD.out];exact head_get hp0)
 have g1:w1.cell? ⟨g,1,none⟩=some (.string n1):=by rw [N1.out];exact strCell HW1.out 1 (get_word (by have:=LN.out;omega))
 have g2:w1.cell? ⟨g,2,none⟩=some (.string n2):=by rw [N2.out];exact strCell HW1.out 2 (get_word (by have:=LN.out;omega))
 have g3:w1.cell? ⟨g,3,none⟩=some (.string n3):=by rw [N3.out];exact strCell HW1.out 3 (get_word (by have:=LN.out;omega))
 go_wp2_with ((go_at_call 20;refine (l6Number_any _ _).mono ?_;rintro e w' ⟨rfl,rfl⟩))
 rw [HDL.out]
 refine (l6Visits_any (some ⟨g,4,none⟩) (c-4) D w1 (Kd.C_below HCP.out C0.out.L) HSD.out HLD.out).mono ?_
 rintro e w2 ⟨v,hv,hb⟩
 have C2:=Lib.hid (C0.out.below hb)
 clear g0 g1 g2 g3 t4 t4c hc4
 have hcs:=hv
 clear hv
 rcases hcs with ⟨vs,hvs,rfl,hV⟩ | ⟨hvs,rfl⟩
 case inr =>
  have HLn:Hid (lineR b ws=(b,tBad)):=by show _=_;rw [HL.out];exact addL_none (by rw [← HDD.out];exact hvs)
  clear hvs hb HL
  have HL:=HLn
  obtain ⟨cb0,cb1,cb2⟩:=C2.out.pc
  obtain ⟨⟨cz0,fz0⟩,⟨cz1,fz1⟩,cz2,fz2⟩:=C2.out.zf
  obtain ⟨ZW,RW,LW⟩:=C2.out.fin (HI.out.h.below C2.out.L)
  go_wp2_with (fail)
  refine bodyPost_ret (results_ct rfl _ _ (w.heap.size+1) 33 #[.slice A0 b.f0.length c0, .slice A1 b.f1.length c1, .slice A2 b.f2.length c2] (0,0) _ rfl ZW.out Tryz.underlying33 rfl (by kernel_rfl)) rfl ?_
  rw [HL.out]
  exact ⟨_,_,_,rfl,RW.out,LW.out⟩
 have HLs:=Lib.hid (HL.out.trans (addL_some (b:=b) (ws:=ws) (Int.not_lt.mpr HB2.out) (Int.not_lt.mpr HB3.out) (by rw [← HDD.out];exact hvs)))
 rw [← N1.out,← N2.out,← N3.out] at HLs
 clear hvs HL
 have HL:=HLs
 obtain ⟨A3,c3,rfl⟩:=Kd.R_slice hV
 obtain ⟨_,hv3,hvC⟩:=Kd.R_reads' hV
 have HV3:=Lib.hid hv3
 have HVC:=Lib.hid hvC
 obtain ⟨f,hf⟩:∃ f:Flight,f=⟨n1,numB n2,numB n3,vs⟩:=⟨_,rfl⟩
 rw [← hf] at HLs HL
 have HF:=Lib.hid hf
 have HWs:=Lib.hid (Kd.R_below HW1.out hb)
 have g1:w2.cell? ⟨g,1,none⟩=some (.string n1):=by rw [N1.out];exact strCell HWs.out 1 (get_word (by have:=LN.out;omega))
 have g2:w2.cell? ⟨g,2,none⟩=some (.string n2):=by rw [N2.out];exact strCell HWs.out 2 (get_word (by have:=LN.out;omega))
 have g3:w2.cell? ⟨g,3,none⟩=some (.string n3):=by rw [N3.out];exact strCell HWs.out 3 (get_word (by have:=LN.out;omega))
 clear hV hb hv3 hvC hf HLs
 have KS:Hid (∀ V,Below w2.heap.size w2 V→V.cell? ⟨w.heap.size,0,none⟩=some (.slice A0 b.f0.length c0)∧V.cell? ⟨w.heap.size,1,none⟩=some (.slice A1 b.f1.length c1)∧V.cell? ⟨w.heap.size,2,none⟩=some (.slice A2 b.f2.length c2)∧V.cell? ⟨g,1,none⟩=some (.string n1)∧V.cell? ⟨g,2,none⟩=some (.string n2)∧V.cell? ⟨g,3,none⟩=some (.string n3)):=fun V h=>⟨pw_cell_below h C2.out.pc.1,pw_cell_below h C2.out.pc.2.1,pw_cell_below h C2.out.pc.2.2,pw_cell_below h g1,pw_cell_below h g2,pw_cell_below h g3⟩
 go_upto_region 7 with (fail)
 clear g1 g2 g3
 go_cut [8,9] (fun s6 s7 wx=>∃ (T:Nat) (B0:Option Addr) (d0:Nat) (B1:Option Addr) (d1:Nat) (B2:Option Addr) (d2:Nat),s6 = .pointer (some ⟨T,0,none⟩)∧s7 = .int .i64 (addR b f).2∧Hid (LnW w wx (.slice A0 b.f0.length c0) (.slice A1 b.f1.length c1) (.slice A2 b.f2.length c2))∧Hid (RdB wx base (.slice B0 (addR b f).1.f0.length d0) (.slice B1 (addR b f).1.f1.length d1) (.slice B2 (addR b f).1.f2.length d2) (addR b f).1)∧Hid (wx.heap[T]? = some (.cells #[.slice B0 (addR b f).1.f0.length d0, .slice B1 (addR b f).1.f1.length d1, .slice B2 (addR b f).1.f2.length d2] 33 (0,0))))
 case first =>
  have b0:Hid (Below w2.heap.size w2 w2.drew):=pw_below_drewN (Below.refl _ _) 1
  refine start_ (n:=21) (S:=fun w'=>w'.cell? ⟨w.heap.size,0,none⟩=some (.slice A0 b.f0.length c0)∧w'.cell? ⟨w.heap.size,1,none⟩=some (.slice A1 b.f1.length c1)∧w'.cell? ⟨w.heap.size,2,none⟩=some (.slice A2 b.f2.length c2)∧w'.cell? ⟨g,1,none⟩=some (.string n1)∧w'.cell? ⟨g,2,none⟩=some (.string n2)∧w'.cell? ⟨g,3,none⟩=some (.string n3)) (ds:=[19]) #[false,false,false,false,false,false,false,false,false,false,false,false,false,false,false,false,false,false,false,false,false] (by kernel_rfl) rfl rfl (KS.out _ b0.out) (fun hHeld => ?_)
  refine pureA 1 (h := ?_)
  refine pureA 2 (h := ?_)
  refine pureA 4 (h := ?_)
  refine pureA 5 (h := ?_)
  refine pureA 8 (h := ?_)
  refine pureA 9 (h := ?_)
  refine pureA 12 (h := ?_)
  refine takeA 0 hHeld (h := ?_)
  refine takeA 3 hHeld (h := ?_)
  refine takeA 6 hHeld (h := ?_)
  refine takeA 10 hHeld (h := ?_)
  generalize w2.drew=V0 at hHeld b0 ⊢
  refine twoA 7 18 (h1:=fun K hK => ?_) (h2:=fun K hK => ?_)
  ·go_simp
   refine (l6Number_any n2 V0).mono ?_
   rintro e w' ⟨rfl,rfl⟩
   go_simp
   refine hK.out _ _ (KS.out _ b0.out) (fun hHeld => ?_)
   clear hK K
   refine twoA 11 18 (h1:=fun K hK => ?_) (h2:=fun K hK => ?_)
   ·go_simp
    refine (l6Number_any n3 V0).mono ?_
    rintro e w' ⟨rfl,rfl⟩
    go_simp
    refine hK.out _ _ (KS.out _ b0.out) (fun hHeld => ?_)
    clear hK K
    refine pureA 13 (h := ?_)
    refine twoA 14 18 (h1:=fun K hK => ?_) (h2:=fun K hK => ?_)
    ·go_simp
     have hrb:=(HI.out.h.below (below_next C2.out.L C2.out.L.size b0.out)).form_D
     have hV:base≤V0.heap.size:=Nat.le_trans hbase (Nat.le_trans C2.out.L.size b0.out.size)
     have hfa:=spec_flowAdd_any A0 c0 A1 c1 A2 c2 b f A3 c3 V0 hrb.1 hrb.2.1 hrb.2.2 (by rw [HF.out];exact Kd.C_below HVC.out b0.out) (by rw [HF.out];exact HV3.out)
     have hq1:f.f0=n1:=by rw [HF.out]
     have hq2:f.f1=numB n2:=by rw [HF.out]
     have hq3:f.f2=numB n3:=by rw [HF.out]
     have hq4:f.f3=vs:=by rw [HF.out]
     rw [hq1,hq2,hq3,hq4] at hfa
     clear hq1 hq2 hq3 hq4
     refine hfa.mono ?_
     clear hfa
     rintro e V5 ⟨u0,u1,u2,rfl,ho,hb⟩
     go_simp
     have bb5:=Lib.hid (below_next b0.out b0.out.size hb)
     have hr:=ho.rd.lower hV
     obtain ⟨B0,d0,B1,d1,B2,d2,rfl,rfl,rfl⟩:=hr.form
     have hN5:=Lib.hid hr
     clear hr ho hb hrb hV
     refine hK.out _ _ (KS.out _ bb5.out) (fun hHeld => ?_)
     clear hK K
     refine pureA 15 (h := ?_)
     refine pureA 16 (h := ?_)
     refine pureA 17 (h := ?_)
     refine oneA 18 (h:=fun K hK => ?_)
     go_simp
     refine hK.out _ _ (KS.out _ (below_alloc bb5.out _)) (fun hHeld => ?_)
     clear hK K
     have bb7:Hid (Below w2.heap.size w2 (V5.alloc (.cells #[.slice none 0 0, .slice none 0 0, .slice none 0 0] 33))):=below_alloc bb5.out _
     have ha:Below V5.heap.size V5 (V5.alloc (.cells #[.slice none 0 0, .slice none 0 0, .slice none 0 0] 33)):=below_alloc (Below.refl _ _) _
     have hN7:=Lib.hid (RdB.below hN5.out ha)
     have y7:Hid ((V5.alloc (.cells #[.slice none 0 0, .slice none 0 0, .slice none 0 0] 33)).heap[V5.heap.size]? = some (.cells #[.slice none 0 0, .slice none 0 0, .slice none 0 0] 33 (0,0))):=blk_new _ _
     have hg7:Hid (w2.heap.size≤V5.heap.size):=bb5.out.size
     clear ha
     obtain ⟨V7,eV7⟩:∃ V,V=V5.alloc (.cells #[.slice none 0 0, .slice none 0 0, .slice none 0 0] 33):=⟨_,rfl⟩
     rw [← eV7] at bb7 hHeld y7 hN7 ⊢
     clear eV7
     have pb0:=blk_frozen y7.out 0
     have cb0:=(blk_cell y7.out 0).trans rfl
     have pb1:=blk_frozen y7.out 1
     have cb1:=(blk_cell y7.out 1).trans rfl
     have pb2:=blk_frozen y7.out 2
     have cb2:=(blk_cell y7.out 2).trans rfl
     refine lastA 19 (h:=fun K hK => ?_)
     go_simp
     refine hK.out _ _ ?_
     clear hK K
     refine pureA 20 (h := ?_)
     refine doneA (h := ?_)
     go_wp2_with (fail)
     go_meet
     have e1:=blk_set y7.out 0 (.slice B0 (addR b f).1.f0.length d0)
     have e2:=blk_set e1 1 (.slice B1 (addR b f).1.f1.length d1)
     have e3:=blk_set e2 2 (.slice B2 (addR b f).1.f2.length d2)
     exact ⟨V5.heap.size,B0,d0,B1,d1,B2,d2,rfl,rfl,LnW.below C2.out (((bb7.out.setCell (p:=⟨V5.heap.size,0,none⟩) hg7.out _).setCell (p:=⟨V5.heap.size,1,none⟩) hg7.out _).setCell (p:=⟨V5.heap.size,2,none⟩) hg7.out _),RdB.cell3 hN7.out y7.out _ _ _,e3⟩
    ·go_simp
     refine hK.out _ _ (KS.out _ (below_alloc b0.out _)) (fun hHeld => ?_)
     clear hK K
     have bb6:Hid (Below w2.heap.size w2 (V0.alloc (.cells #[.slice none 0 0, .slice none 0 0, .slice none 0 0] 33))):=below_alloc b0.out _
     have ha:Below V0.heap.size V0 (V0.alloc (.cells #[.slice none 0 0, .slice none 0 0, .slice none 0 0] 33)):=below_alloc (Below.refl _ _) _
     have y6:Hid ((V0.alloc (.cells #[.slice none 0 0, .slice none 0 0, .slice none 0 0] 33)).heap[V0.heap.size]? = some (.cells #[.slice none 0 0, .slice none 0 0, .slice none 0 0] 33 (0,0))):=blk_new _ _
     have hg6:Hid (w2.heap.size≤V0.heap.size):=b0.out.size
     clear ha
     obtain ⟨V6,eV6⟩:∃ V,V=V0.alloc (.cells #[.slice none 0 0, .slice none 0 0, .slice none 0 0] 33):=⟨_,rfl⟩
     rw [← eV6] at bb6 hHeld y6 ⊢
     clear eV6
     refine oneA 14 (h:=fun K hK => ?_)
     go_simp
     have hrb:=(HI.out.h.below (below_next C2.out.L C2.out.L.size bb6.out)).form_D
     have hV:base≤V6.heap.size:=Nat.le_trans hbase (Nat.le_trans C2.out.L.size bb6.out.size)
     have hfa:=spec_flowAdd_any A0 c0 A1 c1 A2 c2 b f A3 c3 V6 hrb.1 hrb.2.1 hrb.2.2 (by rw [HF.out];exact Kd.C_below HVC.out bb6.out) (by rw [HF.out];exact HV3.out)
     have hq1:f.f0=n1:=by rw [HF.out]
     have hq2:f.f1=numB n2:=by rw [HF.out]
     have hq3:f.f2=numB n3:=by rw [HF.out]
     have hq4:f.f3=vs:=by rw [HF.out]
     rw [hq1,hq2,hq3,hq4] at hfa
     clear hq1 hq2 hq3 hq4
     refine hfa.mono ?_
     clear hfa
     rintro e V8 ⟨u0,u1,u2,rfl,ho,hb⟩
     go_simp
     have bb8:=Lib.hid (below_next bb6.out bb6.out.size hb)
     have y8:=Lib.hid (blk_below y6.out hb)
     have hr:=ho.rd.lower hV
     obtain ⟨B0,d0,B1,d1,B2,d2,rfl,rfl,rfl⟩:=hr.form
     have hN8:=Lib.hid hr
     clear hr ho hb hrb hV
     refine hK.out _ _ (KS.out _ bb8.out) (fun hHeld => ?_)
     clear hK K
     refine pureA 15 (h := ?_)
     refine pureA 16 (h := ?_)
     refine pureA 17 (h := ?_)
     have pb0:=blk_frozen y8.out 0
     have cb0:=(blk_cell y8.out 0).trans rfl
     have pb1:=blk_frozen y8.out 1
     have cb1:=(blk_cell y8.out 1).trans rfl
     have pb2:=blk_frozen y8.out 2
     have cb2:=(blk_cell y8.out 2).trans rfl
     refine lastA 19 (h:=fun K hK => ?_)
     go_simp
     refine hK.out _ _ ?_
     clear hK K
     refine pureA 20 (h := ?_)
     refine doneA (h := ?_)
     go_wp2_with (fail)
     go_meet
     have e1:=blk_set y8.out 0 (.slice B0 (addR b f).1.f0.length d0)
     have e2:=blk_set e1 1 (.slice B1 (addR b f).1.f1.length d1)
     have e3:=blk_set e2 2 (.slice B2 (addR b f).1.f2.length d2)
     exact ⟨V0.heap.size,B0,d0,B1,d1,B2,d2,rfl,rfl,LnW.below C2.out (((bb8.out.setCell (p:=⟨V0.heap.size,0,none⟩) hg6.out _).setCell (p:=⟨V0.heap.size,1,none⟩) hg6.out _).setCell (p:=⟨V0.heap.size,2,none⟩) hg6.out _),RdB.cell3 hN8.out y8.out _ _ _,e3⟩
   ·go_simp
    refine hK.out _ _ (KS.out _ (below_alloc b0.out _)) (fun hHeld => ?_)
    clear hK K
    have bb4:Hid (Below w2.heap.size w2 (V0.alloc (.cells #[.slice none 0 0, .slice none 0 0, .slice none 0 0] 33))):=below_alloc b0.out _
    have ha:Below V0.heap.size V0 (V0.alloc (.cells #[.slice none 0 0, .slice none 0 0, .slice none 0 0] 33)):=below_alloc (Below.refl _ _) _
    have y4:Hid ((V0.alloc (.cells #[.slice none 0 0, .slice none 0 0, .slice none 0 0] 33)).heap[V0.heap.size]? = some (.cells #[.slice none 0 0, .slice none 0 0, .slice none 0 0] 33 (0,0))):=blk_new _ _
    have hg4:Hid (w2.heap.size≤V0.heap.size):=b0.out.size
    clear ha
    obtain ⟨V4,eV4⟩:∃ V,V=V0.alloc (.cells #[.slice none 0 0, .slice none 0 0, .slice none 0 0] 33):=⟨_,rfl⟩
    rw [← eV4] at bb4 hHeld y4 ⊢
    clear eV4
    refine oneA 11 (h:=fun K hK => ?_)
    go_simp
    refine (l6Number_any n3 V4).mono ?_
    rintro e w' ⟨rfl,rfl⟩
    go_simp
    refine hK.out _ _ (KS.out _ bb4.out) (fun hHeld => ?_)
    clear hK K
    refine pureA 13 (h := ?_)
    refine oneA 14 (h:=fun K hK => ?_)
    go_simp
    have hrb:=(HI.out.h.below (below_next C2.out.L C2.out.L.size bb4.out)).form_D
    have hV:base≤V4.heap.size:=Nat.le_trans hbase (Nat.le_trans C2.out.L.size bb4.out.size)
    have hfa:=spec_flowAdd_any A0 c0 A1 c1 A2 c2 b f A3 c3 V4 hrb.1 hrb.2.1 hrb.2.2 (by rw [HF.out];exact Kd.C_below HVC.out bb4.out) (by rw [HF.out];exact HV3.out)
    have hq1:f.f0=n1:=by rw [HF.out]
    have hq2:f.f1=numB n2:=by rw [HF.out]
    have hq3:f.f2=numB n3:=by rw [HF.out]
    have hq4:f.f3=vs:=by rw [HF.out]
    rw [hq1,hq2,hq3,hq4] at hfa
    clear hq1 hq2 hq3 hq4
    refine hfa.mono ?_
    clear hfa
    rintro e V10 ⟨u0,u1,u2,rfl,ho,hb⟩
    go_simp
    have bb10:=Lib.hid (below_next bb4.out bb4.out.size hb)
    have y10:=Lib.hid (blk_below y4.out hb)
    have hr:=ho.rd.lower hV
    obtain ⟨B0,d0,B1,d1,B2,d2,rfl,rfl,rfl⟩:=hr.form
    have hN10:=Lib.hid hr
    clear hr ho hb hrb hV
    refine hK.out _ _ (KS.out _ bb10.out) (fun hHeld => ?_)
    clear hK K
    refine pureA 15 (h := ?_)
    refine pureA 16 (h := ?_)
    refine pureA 17 (h := ?_)
    have pb0:=blk_frozen y10.out 0
    have cb0:=(blk_cell y10.out 0).trans rfl
    have pb1:=blk_frozen y10.out 1
    have cb1:=(blk_cell y10.out 1).trans rfl
    have pb2:=blk_frozen y10.out 2
    have cb2:=(blk_cell y10.out 2).trans rfl
    refine lastA 19 (h:=fun K hK => ?_)
    go_simp
    refine hK.out _ _ ?_
    clear hK K
    refine pureA 20 (h := ?_)
    refine doneA (h := ?_)
    go_wp2_with (fail)
    go_meet
    have e1:=blk_set y10.out 0 (.slice B0 (addR b f).1.f0.length d0)
    have e2:=blk_set e1 1 (.slice B1 (addR b f).1.f1.length d1)
    have e3:=blk_set e2 2 (.slice B2 (addR b f).1.f2.length d2)
    exact ⟨V0.heap.size,B0,d0,B1,d1,B2,d2,rfl,rfl,LnW.below C2.out (((bb10.out.setCell (p:=⟨V0.heap.size,0,none⟩) hg4.out _).setCell (p:=⟨V0.heap.size,1,none⟩) hg4.out _).setCell (p:=⟨V0.heap.size,2,none⟩) hg4.out _),RdB.cell3 hN10.out y10.out _ _ _,e3⟩
  ·go_simp
   refine hK.out _ _ (KS.out _ (below_alloc b0.out _)) (fun hHeld => ?_)
   clear hK K
   have bb2:Hid (Below w2.heap.size w2 (V0.alloc (.cells #[.slice none 0 0, .slice none 0 0, .slice none 0 0] 33))):=below_alloc b0.out _
   have ha:Below V0.heap.size V0 (V0.alloc (.cells #[.slice none 0 0, .slice none 0 0, .slice none 0 0] 33)):=below_alloc (Below.refl _ _) _
   have y2:Hid ((V0.alloc (.cells #[.slice none 0 0, .slice none 0 0, .slice none 0 0] 33)).heap[V0.heap.size]? = some (.cells #[.slice none 0 0, .slice none 0 0, .slice none 0 0] 33 (0,0))):=blk_new _ _
   have hg2:Hid (w2.heap.size≤V0.heap.size):=b0.out.size
   clear ha
   obtain ⟨V2,eV2⟩:∃ V,V=V0.alloc (.cells #[.slice none 0 0, .slice none 0 0, .slice none 0 0] 33):=⟨_,rfl⟩
   rw [← eV2] at bb2 hHeld y2 ⊢
   clear eV2
   refine oneA 7 (h:=fun K hK => ?_)
   go_simp
   refine (l6Number_any n2 V2).mono ?_
   rintro e w' ⟨rfl,rfl⟩
   go_simp
   refine hK.out _ _ (KS.out _ bb2.out) (fun hHeld => ?_)
   clear hK K
   refine oneA 11 (h:=fun K hK => ?_)
   go_simp
   refine (l6Number_any n3 V2).mono ?_
   rintro e w' ⟨rfl,rfl⟩
   go_simp
   refine hK.out _ _ (KS.out _ bb2.out) (fun hHeld => ?_)
   clear hK K
   refine pureA 13 (h := ?_)
   refine oneA 14 (h:=fun K hK => ?_)
   go_simp
   have hrb:=(HI.out.h.below (below_next C2.out.L C2.out.L.size bb2.out)).form_D
   have hV:base≤V2.heap.size:=Nat.le_trans hbase (Nat.le_trans C2.out.L.size bb2.out.size)
   have hfa:=spec_flowAdd_any A0 c0 A1 c1 A2 c2 b f A3 c3 V2 hrb.1 hrb.2.1 hrb.2.2 (by rw [HF.out];exact Kd.C_below HVC.out bb2.out) (by rw [HF.out];exact HV3.out)
   have hq1:f.f0=n1:=by rw [HF.out]
   have hq2:f.f1=numB n2:=by rw [HF.out]
   have hq3:f.f2=numB n3:=by rw [HF.out]
   have hq4:f.f3=vs:=by rw [HF.out]
   rw [hq1,hq2,hq3,hq4] at hfa
   clear hq1 hq2 hq3 hq4
   refine hfa.mono ?_
   clear hfa
   rintro e V13 ⟨u0,u1,u2,rfl,ho,hb⟩
   go_simp
   have bb13:=Lib.hid (below_next bb2.out bb2.out.size hb)
   have y13:=Lib.hid (blk_below y2.out hb)
   have hr:=ho.rd.lower hV
   obtain ⟨B0,d0,B1,d1,B2,d2,rfl,rfl,rfl⟩:=hr.form
   have hN13:=Lib.hid hr
   clear hr ho hb hrb hV
   refine hK.out _ _ (KS.out _ bb13.out) (fun hHeld => ?_)
   clear hK K
   refine pureA 15 (h := ?_)
   refine pureA 16 (h := ?_)
   refine pureA 17 (h := ?_)
   have pb0:=blk_frozen y13.out 0
   have cb0:=(blk_cell y13.out 0).trans rfl
   have pb1:=blk_frozen y13.out 1
   have cb1:=(blk_cell y13.out 1).trans rfl
   have pb2:=blk_frozen y13.out 2
   have cb2:=(blk_cell y13.out 2).trans rfl
   refine lastA 19 (h:=fun K hK => ?_)
   go_simp
   refine hK.out _ _ ?_
   clear hK K
   refine pureA 20 (h := ?_)
   refine doneA (h := ?_)
   go_wp2_with (fail)
   go_meet
   have e1:=blk_set y13.out 0 (.slice B0 (addR b f).1.f0.length d0)
   have e2:=blk_set e1 1 (.slice B1 (addR b f).1.f1.length d1)
   have e3:=blk_set e2 2 (.slice B2 (addR b f).1.f2.length d2)
   exact ⟨V0.heap.size,B0,d0,B1,d1,B2,d2,rfl,rfl,LnW.below C2.out (((bb13.out.setCell (p:=⟨V0.heap.size,0,none⟩) hg2.out _).setCell (p:=⟨V0.heap.size,1,none⟩) hg2.out _).setCell (p:=⟨V0.heap.size,2,none⟩) hg2.out _),RdB.cell3 hN13.out y13.out _ _ _,e3⟩
 case rest =>
 obtain ⟨T,B0,d0,B1,d1,B2,d2,rfl,rfl,C4,R4,X_w4⟩:=hcut
 obtain ⟨w4,hw4⟩:∃ V,V=wc:=⟨_,rfl⟩
 subst hw4
 clear KS C2 C0 HWs HVC HV3
 go_upto_region 8 with (fail)
 have KS:Hid (∀ V,Below w4.heap.size w4 V→V.cell? ⟨T,0,none⟩=some (.slice B0 (addR b f).1.f0.length d0)∧V.cell? ⟨T,1,none⟩=some (.slice B1 (addR b f).1.f1.length d1)∧V.cell? ⟨T,2,none⟩=some (.slice B2 (addR b f).1.f2.length d2)):=fun V h=>⟨pw_cell_below h ((blk_cell X_w4.out 0).trans rfl),pw_cell_below h ((blk_cell X_w4.out 1).trans rfl),pw_cell_below h ((blk_cell X_w4.out 2).trans rfl)⟩
 have bt:Hid (Below w4.heap.size w4 w4.drew):=pw_below_drewN (Below.refl _ _) 1
 refine start_ (n:=6) (S:=fun w'=>w'.cell? ⟨T,0,none⟩=some (.slice B0 (addR b f).1.f0.length d0)∧w'.cell? ⟨T,1,none⟩=some (.slice B1 (addR b f).1.f1.length d1)∧w'.cell? ⟨T,2,none⟩=some (.slice B2 (addR b f).1.f2.length d2)) (ds:=[4,5]) #[false,false,false,false,false,false] (by kernel_rfl) rfl rfl (KS.out _ bt.out) (fun hHeld => ?_)
 refine pureA 1 (h := ?_)
 refine takeA 0 hHeld (h := ?_)
 generalize w4.drew=V9 at hHeld bt ⊢
 refine oneA 2 (h:=fun K hK => ?_)
 go_simp
 have hcode:=addR_code b f
 refine (decV_any ((addR b f).2) V9 hcode.1 (by omega)).mono ?_
 rintro e w9 ⟨rfl,hb⟩
 go_simp
 have b9:Hid (Below w4.heap.size w4 w9):=bt.out.trans (hb.mono bt.out.size)
 have C9:=Lib.hid (C4.out.below b9.out)
 have hsz9:=decS_size (n:=(addR b f).2) hcode.1 (by omega)
 have hds:¬ (9223372036854775807:Nat)<5+(decS ((addR b f).2)).size:=by omega
 clear hb hcode hsz9
 refine hK.out _ _ (KS.out _ b9.out) (fun hHeld => ?_)
 clear hK K
 refine pureA 3 (h := ?_)
 obtain ⟨⟨cz0,fz0⟩,⟨cz1,fz1⟩,cz2,fz2⟩:=C9.out.zf
 refine lastA 4 (h:=fun K hK => ?_)
 go_simp
 refine hK.out _ _ ?_
 clear hK K
 refine lastA 5 (h:=fun K hK => ?_)
 go_simp
 refine hK.out _ _ ?_
 clear hK K
 refine doneA (h := ?_)
 obtain ⟨ZW,RW,LW⟩:=C9.out.fin (R4.out.below b9.out)
 try clear cz0 cz1 cz2 fz0 fz1 fz2
 go_wp2
 refine bodyPost_ret (results_ct rfl _ _ (w.heap.size+1) 33 #[.slice B0 (addR b f).1.f0.length d0, .slice B1 (addR b f).1.f1.length d1, .slice B2 (addR b f).1.f2.length d2] (0,0) _ rfl ZW.out Tryz.underlying33 rfl (by kernel_rfl)) rfl ?_
 rw [HL.out]
 exact ⟨_,_,_,rfl,RW.out,LW.out⟩
end
theorem l6Line_any {base lo g c:Nat} {ok:Nat→Prop} (A0:Option Addr) (c0:Nat) (A1:Option Addr) (c1:Nat) (A2:Option Addr) (c2:Nat) (b:Book) (w:World) (h:RdB w base (.slice A0 b.f0.length c0) (.slice A1 b.f1.length c1) (.slice A2 b.f2.length c2) b) (hbase:base≤w.heap.size) (hok:okB b=true) (ws:List ByteArray) (hw:Kd.R Kd.string 9 w lo ok (.slice (some ⟨g,0,none⟩) ws.length c) ws) (hp0:0<ws.length) (hsz:∀ s∈ws,s.size≤1000000) (hlen:ws.length≤1000000):LineOk base g c A0 c0 A1 c1 A2 c2 b w ws:=by
 have hI:LineIn base lo g c ok A0 c0 A1 c1 A2 c2 b w ws:=⟨h,hbase,hok,hw,hp0,hsz,hlen⟩
 by_cases x1:ws.headD ByteArray.empty=tCap∧ws.length=3∧0≤numB (ws.getD 2 ByteArray.empty)
 ·exact line_cap hI x1.1 x1.2.1 (Int.not_lt.2 x1.2.2)
 by_cases x2:ws.headD ByteArray.empty=tAdd∧5≤ws.length∧0≤numB (ws.getD 2 ByteArray.empty)∧0≤numB (ws.getD 3 ByteArray.empty)
 ·exact line_add hI x2.1 x2.2.1 (Int.not_lt.2 x2.2.2.1) (Int.not_lt.2 x2.2.2.2)
 by_cases x3:ws.headD ByteArray.empty=tDrop∧ws.length=2
 ·exact line_drop hI x3.1 x3.2
 by_cases x4:ws.headD ByteArray.empty=tCompress∧ws.length=1
 ·exact line_compress hI x4.1 x4.2
 by_cases x5:ws.headD ByteArray.empty=tAgain∧ws.length=1
 ·exact line_again hI x5.1 x5.2
 by_cases x6:ws.headD ByteArray.empty=tSlots∧ws.length=1
 ·exact line_slots hI x6.1 x6.2
 by_cases x7:ws.headD ByteArray.empty=tLoad∧ws.length=2
 ·exact line_load hI x7.1 x7.2
 by_cases x8:ws.headD ByteArray.empty=tBound∧ws.length=2
 ·exact line_bound hI x8.1 x8.2
 exact line_bad hI ⟨x1,x2,x3,x4,x5,x6,x7,x8⟩
section
end
end Go.Proofs.YthcpbojmalgdbaaGreatDoor.Q
