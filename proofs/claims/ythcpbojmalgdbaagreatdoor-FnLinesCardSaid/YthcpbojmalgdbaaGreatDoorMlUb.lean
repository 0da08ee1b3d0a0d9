/- Merged out of this seat's own texts. -/
import Derived.Test.YthcpbojmalgdbaaGreatDoorMlUa
import Derived.Test.YthcpbojmalgdbaaGreatDoorMlDp
import Derived.Test.YthcpbojmalgdbaaGreatDoorMlQ
import Derived.Test.YthcpbojmalgdbaaGreatDoorMlG
import Derived.Test.YthcpbojmalgdbaaGreatDoorMlN
import Derived.Test.YthcpbojmalgdbaaGreatDoorMlC
import Derived.Test.YthcpbojmalgdbaaGreatDoorMlU
import Derived.Test.YthcpbojmalgdbaaGreatDoorMlR
set_option linter.unusedVariables false
set_option linter.unusedSimpArgs false
namespace Go.Proofs.YthcpbojmalgdbaaGreatDoor.Q
open Go.RowKit Go.Proofs.YthcpbojmalgdbaaGreatDoorW.PrintWords Go.Proofs.YthcpbojmalgdbaaGreatDoorW.PrintLast Go.Proofs.YthcpbojmalgdbaaGreatDoorW.PrintMore Go.Proofs.YthcpbojmalgdbaaGreatDoor.Core
theorem tst_yes {a:ByteArray} {l:List UInt8} (h:a=mkB l):(a.toList == l)=true:=by rw [h,ByteArray.toList_eq];exact beq_self_eq_true _
theorem tst_no {a:ByteArray} {l:List UInt8} (h:¬ a=mkB l):(a.toList == l)=false:=by
 rw [beq_eq_false_iff_ne,ByteArray.toList_eq]
 intro e
 exact h (bt_inj (e.trans (bt_mkB l).symm))
theorem line_ne {line t X:ByteArray} {ws:List ByteArray} (hws:ws=cutB 32 line) (ht:∀ b∈Core.bt t,b≠32) (hX:ws.headD ByteArray.empty=X) (hne:¬ t=X):¬ line=t:=fun hl=>by
 rw [hws,(cutB_one ht).2 hl] at hX
 exact hne hX
theorem line_ws {line t:ByteArray} {ws:List ByteArray} (hws:ws=cutB 32 line) (ht:∀ b∈Core.bt t,b≠32) (hl:line=t):ws=[t]:=by rw [hws,(cutB_one ht).2 hl]
theorem line_nws {line t:ByteArray} {ws:List ByteArray} (hws:ws=cutB 32 line) (ht:∀ b∈Core.bt t,b≠32) (hl:¬ line=t):¬ ws=[t]:=fun h=>hl ((cutB_one ht).1 (hws.symm.trans h))
theorem head_get {ws:List ByteArray} (h:0<ws.length):ws[0]? = some (ws.headD ByteArray.empty):=by
 cases ws with
 | nil=>simp at h
 | cons a r=>rfl
section
variable {b:Book} {ws:List ByteArray}
theorem lineR_cap (h:ws.headD ByteArray.empty=tCap) (h3:ws.length=3):lineR b ws=if numB (ws.getD 2 ByteArray.empty)<0 then (b,tBad) else capR b (ws.getD 1 ByteArray.empty) (numB (ws.getD 2 ByteArray.empty)):=by
 unfold lineR capR
 dsimp only
 rw [if_pos ⟨h,h3⟩]
theorem lineR_add (h:ws.headD ByteArray.empty=tAdd) (h5:5≤ws.length):lineR b ws=addL b ws:=by
 unfold lineR addL
 dsimp only
 rw [h,if_neg (fun hh=>absurd hh.1 (by decide)),if_pos ⟨rfl,h5⟩]
 rfl
theorem lineR_drop (h:ws.headD ByteArray.empty=tDrop) (h2:ws.length=2):lineR b ws=((dropR b (ws.getD 1 ByteArray.empty)).1,tCode++decS (dropR b (ws.getD 1 ByteArray.empty)).2):=by
 unfold lineR
 dsimp only
 rw [h,if_neg (fun hh=>absurd hh.1 (by decide)),if_neg (fun hh=>absurd hh.1 (by decide)),if_pos ⟨rfl,h2⟩]
theorem lineR_compress (h:ws=[tCompress]):lineR b ws=(compB b,slotsT (compB b)):=by
 subst h
 unfold lineR
 dsimp only
 rw [if_neg (fun hh=>absurd hh.1 (by decide)),if_neg (fun hh=>absurd hh.1 (by decide)),if_neg (fun hh=>absurd hh.1 (by decide)),if_pos rfl]
theorem one_ne {s t:ByteArray} (h:¬ s=t):¬ [s]=[t]:=fun hh=>h (by injection hh)
theorem lineR_again (h:ws=[tAgain]):lineR b ws=(⟨b.f0,b.f1,giveB b.f0 b.f1⟩,slotsT ⟨b.f0,b.f1,giveB b.f0 b.f1⟩):=by
 subst h
 unfold lineR
 dsimp only
 rw [if_neg (fun hh=>absurd hh.1 (by decide)),if_neg (fun hh=>absurd hh.1 (by decide)),if_neg (fun hh=>absurd hh.1 (by decide)),if_neg (one_ne (by decide)),if_pos rfl]
theorem lineR_slots (h:ws=[tSlots]):lineR b ws=(b,slotsT b):=by
 subst h
 unfold lineR
 dsimp only
 rw [if_neg (fun hh=>absurd hh.1 (by decide)),if_neg (fun hh=>absurd hh.1 (by decide)),if_neg (fun hh=>absurd hh.1 (by decide)),if_neg (one_ne (by decide)),if_neg (one_ne (by decide)),if_pos rfl]
theorem two_ne {t:ByteArray} (h2:ws.length=2):¬ ws=[t]:=fun h=>by rw [h] at h2;simp at h2
theorem lineR_load (h:ws.headD ByteArray.empty=tLoad) (h2:ws.length=2):lineR b ws=(b,runsT (runsB b.f1 b.f2 (ws.getD 1 ByteArray.empty))):=by
 unfold lineR
 dsimp only
 rw [h,if_neg (fun hh=>absurd hh.1 (by decide)),if_neg (fun hh=>absurd hh.1 (by decide)),if_neg (fun hh=>absurd hh.1 (by decide)),if_neg (two_ne h2),if_neg (two_ne h2),if_neg (two_ne h2),if_pos ⟨rfl,h2⟩]
theorem lineR_bound (h:ws.headD ByteArray.empty=tBound) (h2:ws.length=2):lineR b ws=(b,decS (boundP b.f0 b.f1 (ws.getD 1 ByteArray.empty))):=by
 unfold lineR
 dsimp only
 rw [h,if_neg (fun hh=>absurd hh.1 (by decide)),if_neg (fun hh=>absurd hh.1 (by decide)),if_neg (fun hh=>absurd hh.1 (by decide)),if_neg (two_ne h2),if_neg (two_ne h2),if_neg (two_ne h2),if_neg (fun hh=>absurd hh.1 (by decide)),if_pos ⟨rfl,h2⟩]
theorem lineR_bad (n1:¬ (ws.headD ByteArray.empty=tCap∧ws.length=3)) (n2:¬ (ws.headD ByteArray.empty=tAdd∧5≤ws.length)) (n3:¬ (ws.headD ByteArray.empty=tDrop∧ws.length=2)) (n4:¬ ws=[tCompress]) (n5:¬ ws=[tAgain]) (n6:¬ ws=[tSlots])
  (n7:¬ (ws.headD ByteArray.empty=tLoad∧ws.length=2)) (n8:¬ (ws.headD ByteArray.empty=tBound∧ws.length=2)):lineR b ws=(b,tBad):=by
 unfold lineR
 dsimp only
 rw [if_neg n1,if_neg n2,if_neg n3,if_neg n4,if_neg n5,if_neg n6,if_neg n7,if_neg n8]
end
theorem dropR_same {b:Book} (hok:okB b=true) (n:ByteArray) (h:(dropR b n).2≠0):(dropR b n).1=b:=by
 unfold dropR at h ⊢
 rw [if_neg (by rw [hok];decide)] at h ⊢
 split
 ·rfl
 ·rename_i h1
  rw [if_neg h1] at h
  exact absurd rfl h
theorem Ses.slots {w0 V:World} {S:Nat} {b:Book} {v0 v1 v2 u2:Value} {s:List Int} (h:Ses w0 V S b) (hx:V.heap[S]? = some (.cells #[v0,v1,v2] 39 (0,0))) (hr:RdB V (S+1) v0 v1 v2 b) (hu:Kd.R (Kd.int .i64) 3 V (S+1) (fun _=>True) u2 s):Ses w0 (V.setCell ⟨S,2,none⟩ u2) S ⟨b.f0,b.f1,s⟩ :=
 ⟨⟨v0,v1,u2,blk_set hx 2 u2,(show RdB V (S+1) v0 v1 u2 ⟨b.f0,b.f1,s⟩ from ⟨hr.caps,hr.flights,hu⟩).setOld (p:=⟨S,2,none⟩) (Nat.lt_succ_self S) u2⟩,h.L.setCell (p:=⟨S,2,none⟩) h.hS u2,h.hS,h.g0⟩
def HG (a:ByteArray) (x1 x2 x3 x4 x5:Bool):Prop:=(a.toList == [99,97,112])=x1∧(a.toList == [97,100,100])=x2∧(a.toList == [100,114,111,112])=x3∧(a.toList == [108,111,97,100])=x4∧(a.toList == [98,111,117,110,100])=x5
def LF (a:ByteArray) (x1 x2 x3:Bool):Prop:=(a.toList == [99,111,109,112,114,101,115,115])=x1∧(a.toList == [97,103,97,105,110])=x2∧(a.toList == [115,108,111,116,115])=x3
theorem tst_ne {a t:ByteArray} {l:List UInt8} (h:a=t) (hn:¬ t=mkB l):(a.toList == l)=false:=tst_no (by rw [h];exact hn)
theorem HG_tCap {a:ByteArray} (h:a=tCap):HG a true false false false false:=⟨tst_yes h,tst_ne h (by decide),tst_ne h (by decide),tst_ne h (by decide),tst_ne h (by decide)⟩
theorem HG_tAdd {a:ByteArray} (h:a=tAdd):HG a false true false false false:=⟨tst_ne h (by decide),tst_yes h,tst_ne h (by decide),tst_ne h (by decide),tst_ne h (by decide)⟩
theorem HG_tDrop {a:ByteArray} (h:a=tDrop):HG a false false true false false:=⟨tst_ne h (by decide),tst_ne h (by decide),tst_yes h,tst_ne h (by decide),tst_ne h (by decide)⟩
theorem HG_tLoad {a:ByteArray} (h:a=tLoad):HG a false false false true false:=⟨tst_ne h (by decide),tst_ne h (by decide),tst_ne h (by decide),tst_yes h,tst_ne h (by decide)⟩
theorem HG_tBound {a:ByteArray} (h:a=tBound):HG a false false false false true:=⟨tst_ne h (by decide),tst_ne h (by decide),tst_ne h (by decide),tst_ne h (by decide),tst_yes h⟩
theorem HG_none {a:ByteArray} (n0:¬ a=tCap) (n1:¬ a=tAdd) (n2:¬ a=tDrop) (n3:¬ a=tLoad) (n4:¬ a=tBound):HG a false false false false false:=⟨tst_no n0,tst_no n1,tst_no n2,tst_no n3,tst_no n4⟩
theorem LF_tCompress {a:ByteArray} (h:a=tCompress):LF a true false false:=⟨tst_yes h,tst_ne h (by decide),tst_ne h (by decide)⟩
theorem LF_tAgain {a:ByteArray} (h:a=tAgain):LF a false true false:=⟨tst_ne h (by decide),tst_yes h,tst_ne h (by decide)⟩
theorem LF_tSlots {a:ByteArray} (h:a=tSlots):LF a false false true:=⟨tst_ne h (by decide),tst_ne h (by decide),tst_yes h⟩
theorem LF_none {a:ByteArray} (n0:¬ a=tCompress) (n1:¬ a=tAgain) (n2:¬ a=tSlots):LF a false false false:=⟨tst_no n0,tst_no n1,tst_no n2⟩
theorem LF_head {line X:ByteArray} {ws:List ByteArray} (hws:ws=cutB 32 line) (hX:ws.headD ByteArray.empty=X) (n0:¬ tCompress=X) (n1:¬ tAgain=X) (n2:¬ tSlots=X):LF line false false false:=LF_none (line_ne hws (by decide) hX n0) (line_ne hws (by decide) hX n1) (line_ne hws (by decide) hX n2)
structure AnIn (w0 w:World) (S:Nat) (b:Book) (line:ByteArray) (ws:List ByteArray):Prop where
 h:Ses w0 w S b
 hok:okB b=true
 hsz:line.size≤100000
 hws:ws=cutB 32 line
def AnOk (w0 w:World) (S:Nat) (b:Book) (line:ByteArray) (ws:List ByteArray):Prop :=
 Calls Tryz.prog 11 #[.pointer (some ⟨S,0,none⟩), .string line] w fun e w'=>e = .returned (.string (lineR b ws).2)∧Ses w0 w' S (lineR b ws).1∧KeepBut w w' S none
section
variable {w0 w:World} {S:Nat} {b:Book} {line:ByteArray} {ws:List ByteArray}
theorem AnIn.fs (h:AnIn w0 w S b line ws):1≤ws.length∧0<ws.length∧ws.length≤100001∧Hid (∀ s∈ws,s.size≤1000000):=by
 have h1:=cutB_len 32 line
 have h2:=h.hsz
 rw [← h.hws] at h1
 refine ⟨h1.1,h1.1,by omega,?_⟩
 show ∀ s∈ws,_
 rw [h.hws]
 exact fun s hs=>Nat.le_trans (cutB_mem hs) (by omega)
def BadA (line:ByteArray) (ws:List ByteArray):Prop:=¬ (ws.headD ByteArray.empty=tCap∧ws.length=3)∧¬ (ws.headD ByteArray.empty=tAdd∧5≤ws.length)∧¬ (ws.headD ByteArray.empty=tDrop∧ws.length=2)∧¬ (ws.headD ByteArray.empty=tLoad∧ws.length=2)∧¬ (ws.headD ByteArray.empty=tBound∧ws.length=2)∧¬ line=tCompress∧¬ line=tAgain∧¬ line=tSlots
theorem lineR_badA (hws:ws=cutB 32 line) (h:BadA line ws):lineR b ws=(b,tBad):=by
 obtain ⟨h1,h2,h3,h4,h5,l1,l2,l3⟩:=h
 exact lineR_bad h1 h2 h3 (line_nws hws (by decide) l1) (line_nws hws (by decide) l2) (line_nws hws (by decide) l3) h4 h5
theorem badA_cases {a:ByteArray} (ha:a=ws.headD ByteArray.empty) (h:BadA line ws):LF line false false false∧(HG a false false false false false∨(HG a true false false false false∧(((ws.length:Nat):Int) == 3)=false)∨(HG a false true false false false∧decide (((ws.length:Nat):Int) ≥ 5)=false∧decide ((5:Int)≤((ws.length:Nat):Int))=false)∨(HG a false false true false false∧(((ws.length:Nat):Int) == 2)=false)∨(HG a false false false true false∧(((ws.length:Nat):Int) == 2)=false)∨(HG a false false false false true∧(((ws.length:Nat):Int) == 2)=false)):=by
 obtain ⟨h1,h2,h3,h4,h5,l1,l2,l3⟩:=h
 refine ⟨LF_none l1 l2 l3,?_⟩
 rw [← ha] at h1 h2 h3 h4 h5
 by_cases x1:a=tCap
 ·have h9:¬ ws.length=3:=fun hh=>h1 ⟨x1,hh⟩
  exact .inr (.inl (⟨HG_tCap x1,by rw [beq_eq_false_iff_ne];omega⟩))
 by_cases x2:a=tAdd
 ·have h9:¬ 5≤ws.length:=fun hh=>h2 ⟨x2,hh⟩
  exact .inr (.inr (.inl (⟨HG_tAdd x2,decide_eq_false (by omega),decide_eq_false (by omega)⟩)))
 by_cases x3:a=tDrop
 ·have h9:¬ ws.length=2:=fun hh=>h3 ⟨x3,hh⟩
  exact .inr (.inr (.inr (.inl (⟨HG_tDrop x3,by rw [beq_eq_false_iff_ne];omega⟩))))
 by_cases x4:a=tLoad
 ·have h9:¬ ws.length=2:=fun hh=>h4 ⟨x4,hh⟩
  exact .inr (.inr (.inr (.inr (.inl (⟨HG_tLoad x4,by rw [beq_eq_false_iff_ne];omega⟩)))))
 by_cases x5:a=tBound
 ·have h9:¬ ws.length=2:=fun hh=>h5 ⟨x5,hh⟩
  exact .inr (.inr (.inr (.inr (.inr (⟨HG_tBound x5,by rw [beq_eq_false_iff_ne];omega⟩)))))
 exact .inl (HG_none x1 x2 x3 x4 x5)
set_option maxRecDepth 100000 in
set_option maxHeartbeats 8000000 in
theorem answer_bad (hI:AnIn w0 w S b line ws) (hb:BadA line ws):AnOk w0 w S b line ws:=by
 have HI:=Lib.hid hI
 obtain ⟨hl1,hp0,hlen,HSZ⟩:=hI.fs
 have hsz:=hI.hsz
 obtain ⟨hd,hhd⟩:∃ x,x=ws.headD ByteArray.empty:=⟨_,rfl⟩
 have HHD:=Lib.hid hhd
 have HL:=Lib.hid (lineR_badA (b:=b) hI.hws hb)
 obtain ⟨⟨b1,b2,b3⟩,hc⟩:=badA_cases hhd hb
 have HC:=Lib.hid hc
 clear hI hhd hb hc
 unfold AnOk
 go_enter Tryz.func11,Tryz.ntmps11
 go_wp2_with (fail)
 refine (split_any line 32 ⟨#[32]⟩ rfl _ (by omega) HI.out.h.gl).mono ?_
 rintro e w1 ⟨p,rfl,hp,hb⟩
 rw [← HI.out.hws] at hp
 obtain ⟨g,c,rfl,hg0,hg1,csp,hcsp⟩:=Kd.R_form hp hp0
 have g0:w1.cell? ⟨g,0,none⟩=some (.string hd):=strCell hp 0 (by rw [HHD.out];exact head_get hp0)
 have HW:=Lib.hid hp
 have B1:=Lib.hid hb
 have H1:=Lib.hid (HI.out.h.below hb)
 clear hp hb hg0 hg1 hcsp csp
 have hc:=HC.out
 clear HC
 rcases hc with ⟨a1,a2,a3,a4,a5⟩ | ⟨⟨a1,a2,a3,a4,a5⟩,e1⟩ | ⟨⟨a1,a2,a3,a4,a5⟩,e1,e2⟩ | ⟨⟨a1,a2,a3,a4,a5⟩,e1⟩ | ⟨⟨a1,a2,a3,a4,a5⟩,e1⟩ | ⟨⟨a1,a2,a3,a4,a5⟩,e1⟩
 all_goals
  go_wp2
  go_ret
  rw [HL.out]
  exact ⟨rfl,H1.out,KeepBut.of_below B1.out S none⟩
set_option maxRecDepth 100000 in
set_option maxHeartbeats 8000000 in
theorem answer_cap (hI:AnIn w0 w S b line ws) (hX:ws.headD ByteArray.empty=tCap) (hlen_:ws.length=3):AnOk w0 w S b line ws:=by
 have HI:=Lib.hid hI
 obtain ⟨hl1,hp0,hlen,HSZ⟩:=hI.fs
 have hsz:=hI.hsz
 obtain ⟨hd,hhd⟩:∃ x,x=ws.headD ByteArray.empty:=⟨_,rfl⟩
 obtain ⟨a1,a2,a3,a4,a5⟩:=HG_tCap (hhd.trans hX)
 obtain ⟨b1,b2,b3⟩:=LF_head hI.hws hX (by decide) (by decide) (by decide)
 have e_len:(((ws.length:Nat):Int) == 3)=true:=by rw [hlen_];rfl
 have HHD:=Lib.hid hhd
 have HL:=Lib.hid (lineR_cap (b:=b) hX hlen_)
 have i2:(2:Int)<ws.length:=by omega
 have i1:(1:Int)<ws.length:=by omega
 have L3:=Lib.hid hlen_
 clear hI hhd hX hlen_
 unfold AnOk
 go_enter Tryz.func11,Tryz.ntmps11
 go_wp2_with (fail)
 refine (split_any line 32 ⟨#[32]⟩ rfl _ (by omega) HI.out.h.gl).mono ?_
 rintro e w1 ⟨p,rfl,hp,hb⟩
 rw [← HI.out.hws] at hp
 obtain ⟨g,c,rfl,hg0,hg1,csp,hcsp⟩:=Kd.R_form hp hp0
 have g0:w1.cell? ⟨g,0,none⟩=some (.string hd):=strCell hp 0 (by rw [HHD.out];exact head_get hp0)
 have HW:=Lib.hid hp
 have B1:=Lib.hid hb
 have H1:=Lib.hid (HI.out.h.below hb)
 clear hp hb hg0 hg1 hcsp csp
 obtain ⟨n1,hn1⟩:∃ x,x=ws.getD 1 ByteArray.empty:=⟨_,rfl⟩
 obtain ⟨n2,hn2⟩:∃ x,x=ws.getD 2 ByteArray.empty:=⟨_,rfl⟩
 have g2:w1.cell? ⟨g,2,none⟩=some (.string n2):=by rw [hn2];exact strCell HW.out 2 (get_word (by omega))
 rw [← hn1,← hn2] at HL
 have N1:=Lib.hid hn1
 clear hn1 hn2
 go_wp2_with (fail)
 refine (decimal_any n2 _).mono ?_
 rintro e w2 ⟨rfl,hb⟩
 have H2:=Lib.hid (H1.out.below hb)
 have B2:=Lib.hid (below_next B1.out B1.out.size hb)
 have g1:w2.cell? ⟨g,1,none⟩=some (.string n1):=by rw [N1.out];exact strCell (Kd.R_below HW.out hb) 1 (get_word (by omega))
 clear hb g0 g2 H1 B1
 by_cases hb2:numB n2<0
 ·have e2:decO n2=false:=decide_eq_false (by omega)
  rw [if_pos hb2] at HL
  clear hb2
  go_wp2
  go_ret
  rw [HL.out]
  exact ⟨rfl,H2.out,KeepBut.of_below B2.out S none⟩
 have e2:=(decV_ok (s:=n2) (by omega)).2
 have v2:=Lib.hid (decV_ok (s:=n2) (by omega)).1
 rw [if_neg hb2] at HL
 rw [v2.out]
 clear hb2 v2
 go_wp2_with (fail)
 refine (capM_any H2.out HI.out.hok n1 (numB n2)).mono ?_
 rintro e w3 ⟨rfl,hs,hk⟩
 have H3:=Lib.hid hs
 have K3:=Lib.hid ((KeepBut.of_below B2.out S none).trans hk (.inl rfl))
 clear hs hk g1
 go_wp2
 go_ret
 rw [HL.out]
 exact ⟨rfl,H3.out,K3.out⟩
set_option maxRecDepth 100000 in
set_option maxHeartbeats 8000000 in
theorem answer_add (hI:AnIn w0 w S b line ws) (hX:ws.headD ByteArray.empty=tAdd) (h5:5≤ws.length):AnOk w0 w S b line ws:=by
 have HI:=Lib.hid hI
 obtain ⟨hl1,hp0,hlen,HSZ⟩:=hI.fs
 have hsz:=hI.hsz
 obtain ⟨hd,hhd⟩:∃ x,x=ws.headD ByteArray.empty:=⟨_,rfl⟩
 obtain ⟨a1,a2,a3,a4,a5⟩:=HG_tAdd (hhd.trans hX)
 obtain ⟨b1,b2,b3⟩:=LF_head hI.hws hX (by decide) (by decide) (by decide)
 have e_len:decide (((ws.length:Nat):Int) ≥ 5)=true:=decide_eq_true (by omega)
 have e_len2:decide ((5:Int)≤((ws.length:Nat):Int))=true:=decide_eq_true (by omega)
 have HHD:=Lib.hid hhd
 have HL:=Lib.hid (lineR_add (b:=b) hX h5)
 clear hI hhd hX
 unfold AnOk
 go_enter Tryz.func11,Tryz.ntmps11
 go_wp2_with (fail)
 refine (split_any line 32 ⟨#[32]⟩ rfl _ (by omega) HI.out.h.gl).mono ?_
 rintro e w1 ⟨p,rfl,hp,hb⟩
 rw [← HI.out.hws] at hp
 obtain ⟨g,c,rfl,hg0,hg1,csp,hcsp⟩:=Kd.R_form hp hp0
 have g0:w1.cell? ⟨g,0,none⟩=some (.string hd):=strCell hp 0 (by rw [HHD.out];exact head_get hp0)
 have HW:=Lib.hid hp
 have B1:=Lib.hid hb
 have H1:=Lib.hid (HI.out.h.below hb)
 clear hp hb hg0 hg1 hcsp csp
 go_wp2_with (fail)
 refine (addM_any H1.out HI.out.hok ws HW.out h5 HSZ.out (by omega)).mono ?_
 rintro e w3 ⟨rfl,hs,hk⟩
 have H3:=Lib.hid hs
 have K3:=Lib.hid ((KeepBut.of_below B1.out S none).trans hk (.inl rfl))
 clear hs hk g0
 go_wp2
 go_ret
 rw [HL.out]
 exact ⟨rfl,H3.out,K3.out⟩
set_option maxRecDepth 100000 in
set_option maxHeartbeats 8000000 in
theorem answer_slots (hI:AnIn w0 w S b line ws) (hl:line=tSlots):AnOk w0 w S b line ws:=by
 have HI:=Lib.hid hI
 obtain ⟨hl1,hp0,hlen,HSZ⟩:=hI.fs
 have hsz:=hI.hsz
 obtain ⟨hd,hhd⟩:∃ x,x=ws.headD ByteArray.empty:=⟨_,rfl⟩
 have hw1:ws=[tSlots]:=line_ws hI.hws (by decide) hl
 have hdX:hd=tSlots:=by rw [hhd,hw1];rfl
 obtain ⟨a1,a2,a3,a4,a5⟩:=HG_none (a:=hd) (by rw [hdX];decide) (by rw [hdX];decide) (by rw [hdX];decide) (by rw [hdX];decide) (by rw [hdX];decide)
 obtain ⟨b1,b2,b3⟩:=LF_tSlots hl
 have HHD:=Lib.hid hhd
 have HL:=Lib.hid (lineR_slots (b:=b) hw1)
 clear hI hhd hl hdX hw1
 unfold AnOk
 go_enter Tryz.func11,Tryz.ntmps11
 go_wp2_with (fail)
 refine (split_any line 32 ⟨#[32]⟩ rfl _ (by omega) HI.out.h.gl).mono ?_
 rintro e w1 ⟨p,rfl,hp,hb⟩
 rw [← HI.out.hws] at hp
 obtain ⟨g,c,rfl,hg0,hg1,csp,hcsp⟩:=Kd.R_form hp hp0
 have g0:w1.cell? ⟨g,0,none⟩=some (.string hd):=strCell hp 0 (by rw [HHD.out];exact head_get hp0)
 have HW:=Lib.hid hp
 have B1:=Lib.hid hb
 have H1:=Lib.hid (HI.out.h.below hb)
 clear hp hb hg0 hg1 hcsp csp
 go_wp2_with (fail)
 refine (slotsM_any H1.out HI.out.hok).mono ?_
 rintro e w3 ⟨rfl,hb⟩
 have H3:=Lib.hid (H1.out.below hb)
 have K3:=Lib.hid (KeepBut.of_below (below_next B1.out B1.out.size hb) S none)
 clear hb g0
 go_wp2
 go_ret
 rw [HL.out]
 exact ⟨rfl,H3.out,K3.out⟩
set_option maxRecDepth 100000 in
set_option maxHeartbeats 8000000 in
theorem answer_compress (hI:AnIn w0 w S b line ws) (hl:line=tCompress):AnOk w0 w S b line ws:=by
 have HI:=Lib.hid hI
 obtain ⟨hl1,hp0,hlen,HSZ⟩:=hI.fs
 have hsz:=hI.hsz
 obtain ⟨hd,hhd⟩:∃ x,x=ws.headD ByteArray.empty:=⟨_,rfl⟩
 have hw1:ws=[tCompress]:=line_ws hI.hws (by decide) hl
 have hdX:hd=tCompress:=by rw [hhd,hw1];rfl
 obtain ⟨a1,a2,a3,a4,a5⟩:=HG_none (a:=hd) (by rw [hdX];decide) (by rw [hdX];decide) (by rw [hdX];decide) (by rw [hdX];decide) (by rw [hdX];decide)
 obtain ⟨b1,b2,b3⟩:=LF_tCompress hl
 have HHD:=Lib.hid hhd
 have HL:=Lib.hid (lineR_compress (b:=b) hw1)
 clear hI hhd hl hdX hw1
 unfold AnOk
 go_enter Tryz.func11,Tryz.ntmps11
 go_wp2_with (fail)
 refine (split_any line 32 ⟨#[32]⟩ rfl _ (by omega) HI.out.h.gl).mono ?_
 rintro e w1 ⟨p,rfl,hp,hb⟩
 rw [← HI.out.hws] at hp
 obtain ⟨g,c,rfl,hg0,hg1,csp,hcsp⟩:=Kd.R_form hp hp0
 have g0:w1.cell? ⟨g,0,none⟩=some (.string hd):=strCell hp 0 (by rw [HHD.out];exact head_get hp0)
 have HW:=Lib.hid hp
 have B1:=Lib.hid hb
 have H1:=Lib.hid (HI.out.h.below hb)
 clear hp hb hg0 hg1 hcsp csp
 obtain ⟨A0,c0,A1,c1,A2,c2,hbx,hrd⟩:=H1.out.form
 have x0:=(blk_cell hbx 0).trans rfl
 have x1:=(blk_cell hbx 1).trans rfl
 have x2:=(blk_cell hbx 2).trans rfl
 have hr:=hrd.form_D
 have QC:=Lib.hid (impl_flowCompress_any A0 c0 A1 c1 A2 c2 b w1 hr.1 hr.2.1 hr.2.2)
 clear hbx hrd hr
 go_wp2_with (fail)
 refine QC.out.mono ?_
 rintro e w2 ⟨u0,u1,u2,rfl,ho,hb⟩
 rw [compressR_ok HI.out.hok] at ho
 have H2:=Lib.hid (H1.out.below hb)
 have B2:=Lib.hid (below_next B1.out B1.out.size hb)
 have RD:=Lib.hid (ho.rd.lower (base':=S+1) H1.out.lt)
 obtain ⟨AX,cX,CX,dX,DX,eX,rfl,rfl,rfl,_,_,_⟩:=ho.form
 obtain ⟨y0,y1,y2,hx2,_⟩:=H2.out.box
 have HX:=Lib.hid hx2
 clear hx2 ho hb x0 x1 x2 QC g0
 have cz0:=(blk_cell HX.out 0).trans rfl
 have fz0:=blk_frozen HX.out 0
 have cz1:=(blk_cell HX.out 1).trans rfl
 have fz1:=blk_frozen HX.out 1
 have cz2:=(blk_cell HX.out 2).trans rfl
 have fz2:=blk_frozen HX.out 2
 have H3:=Lib.hid (H2.out.put RD.out)
 have K3:=Lib.hid (keep_own3 (KeepBut.of_below B2.out S none) (.slice AX (compB b).f0.length cX) (.slice CX (compB b).f1.length dX) (.slice DX (compB b).f2.length eX))
 go_upto_region 13 with (fail)
 clear cz0 cz1 cz2 fz0 fz1 fz2 HX H2 RD
 obtain ⟨W3,hW3⟩:∃ W,W=((w2.setCell ⟨S,0,none⟩ (.slice AX (compB b).f0.length cX)).setCell ⟨S,1,none⟩ (.slice CX (compB b).f1.length dX)).setCell ⟨S,2,none⟩ (.slice DX (compB b).f2.length eX):=⟨_,rfl⟩
 rw [← hW3] at H3 K3 ⊢
 clear hW3
 go_wp2_with (fail)
 refine (slotsM_any H3.out (compB_ok HI.out.hok)).mono ?_
 rintro e w4 ⟨rfl,hb⟩
 have H4:=Lib.hid (H3.out.below hb)
 have K4:=Lib.hid (keep_bel K3.out hb)
 clear hb
 go_wp2
 go_ret
 rw [HL.out]
 exact ⟨rfl,H4.out,K4.out⟩
set_option maxRecDepth 100000 in
set_option maxHeartbeats 8000000 in
theorem answer_again (hI:AnIn w0 w S b line ws) (hl:line=tAgain):AnOk w0 w S b line ws:=by
 have HI:=Lib.hid hI
 obtain ⟨hl1,hp0,hlen,HSZ⟩:=hI.fs
 have hsz:=hI.hsz
 obtain ⟨hd,hhd⟩:∃ x,x=ws.headD ByteArray.empty:=⟨_,rfl⟩
 have hw1:ws=[tAgain]:=line_ws hI.hws (by decide) hl
 have hdX:hd=tAgain:=by rw [hhd,hw1];rfl
 obtain ⟨a1,a2,a3,a4,a5⟩:=HG_none (a:=hd) (by rw [hdX];decide) (by rw [hdX];decide) (by rw [hdX];decide) (by rw [hdX];decide) (by rw [hdX];decide)
 obtain ⟨b1,b2,b3⟩:=LF_tAgain hl
 have HHD:=Lib.hid hhd
 have HL:=Lib.hid (lineR_again (b:=b) hw1)
 clear hI hhd hl hdX hw1
 unfold AnOk
 go_enter Tryz.func11,Tryz.ntmps11
 go_wp2_with (fail)
 refine (split_any line 32 ⟨#[32]⟩ rfl _ (by omega) HI.out.h.gl).mono ?_
 rintro e w1 ⟨p,rfl,hp,hb⟩
 rw [← HI.out.hws] at hp
 obtain ⟨g,c,rfl,hg0,hg1,csp,hcsp⟩:=Kd.R_form hp hp0
 have g0:w1.cell? ⟨g,0,none⟩=some (.string hd):=strCell hp 0 (by rw [HHD.out];exact head_get hp0)
 have HW:=Lib.hid hp
 have B1:=Lib.hid hb
 have H1:=Lib.hid (HI.out.h.below hb)
 clear hp hb hg0 hg1 hcsp csp
 obtain ⟨A0,c0,A1,c1,A2,c2,hbx,hrd⟩:=H1.out.form
 have HBX:=Lib.hid hbx
 have HRD:=Lib.hid hrd
 have hS0:Hid (w1.cell? ⟨S,0,none⟩=some (.slice A0 b.f0.length c0)∧w1.cell? ⟨S,1,none⟩=some (.slice A1 b.f1.length c1)):=⟨(blk_cell hbx 0).trans rfl,(blk_cell hbx 1).trans rfl⟩
 have KS:Hid (∀ V,Below w1.heap.size w1 V→V.cell? ⟨S,0,none⟩=some (.slice A0 b.f0.length c0)∧V.cell? ⟨S,1,none⟩=some (.slice A1 b.f1.length c1)):=fun V h=>⟨pw_cell_below h hS0.out.1,pw_cell_below h hS0.out.2⟩
 clear hS0 hbx hrd
 go_upto_region 15 with (fail)
 have b0:Hid (Below w1.heap.size w1 w1.drew):=pw_below_drewN (Below.refl _ _) 1
 refine start_ (n:=16) (S:=fun w'=>w'.cell? ⟨S,0,none⟩=some (.slice A0 b.f0.length c0)∧w'.cell? ⟨S,1,none⟩=some (.slice A1 b.f1.length c1)) (ds:=[15]) #[false,false,false,false,false,false,false,false,false,false,false,false,false,false,false,false] (by kernel_rfl) rfl rfl (KS.out _ b0.out) (fun hHeld => ?_)
 refine pureA 0 (h := ?_)
 refine pureA 1 (h := ?_)
 refine pureA 2 (h := ?_)
 refine pureA 3 (h := ?_)
 refine pureA 4 (h := ?_)
 refine pureA 6 (h := ?_)
 refine pureA 7 (h := ?_)
 refine pureA 8 (h := ?_)
 refine pureA 9 (h := ?_)
 refine takeA 5 hHeld (h := ?_)
 refine takeA 10 hHeld (h := ?_)
 generalize w1.drew=V0 at hHeld b0 ⊢
 refine oneA 11 (h:=fun K hK => ?_)
 go_simp
 have hrb:=(HRD.out.below b0.out).form_D
 refine (impl_give_any A0 c0 b.f0 A1 c1 b.f1 V0 hrb.1 hrb.2.1).mono ?_
 rintro e w2 ⟨v,rfl,hv,hb⟩
 go_simp
 have b2:Hid (Below w1.heap.size w1 w2):=b0.out.trans (hb.mono b0.out.size)
 obtain ⟨AG,cG,rfl⟩:=Kd.R_slice hv
 have hSl:S+1≤V0.heap.size:=Nat.le_trans H1.out.lt b0.out.size
 have HV:=Lib.hid (Kd.R_lower hv hSl)
 have HBX2:=Lib.hid (blk_below HBX.out b2.out)
 have cz2:=(blk_cell HBX2.out 2).trans rfl
 have fz2:=blk_frozen HBX2.out 2
 clear hv hb hrb
 refine hK.out _ _ (KS.out _ b2.out) (fun hHeld => ?_)
 clear hK K
 refine pureA 12 (h := ?_)
 refine pureA 13 (h := ?_)
 refine pureA 14 (h := ?_)
 refine lastA 15 (h:=fun K hK => ?_)
 go_simp
 refine hK.out _ _ ?_
 clear hK K
 refine doneA (h := ?_)
 have H3:=Lib.hid ((H1.out.below b2.out).slots HBX2.out (HRD.out.below b2.out) HV.out)
 have K3:=Lib.hid (keep_own (KeepBut.of_below (below_next B1.out B1.out.size b2.out) S none) 2 (.slice AG (giveB b.f0 b.f1).length cG))
 clear cz2 fz2 HBX2 HV
 obtain ⟨W3,hW3⟩:∃ W,W=w2.setCell ⟨S,2,none⟩ (.slice AG (giveB b.f0 b.f1).length cG):=⟨_,rfl⟩
 rw [← hW3] at H3 K3 ⊢
 clear hW3
 have HG3:Hid (okB ⟨b.f0,b.f1,giveB b.f0 b.f1⟩=true):=giveB_fits (fitsB_parts HI.out.hok).1 (slotsB_parts (fitsB_parts HI.out.hok).2.1).1
 go_wp2_with (fail)
 refine (slotsM_any H3.out HG3.out).mono ?_
 rintro e w4 ⟨rfl,hb⟩
 have H4:=Lib.hid (H3.out.below hb)
 have K4:=Lib.hid (keep_bel K3.out hb)
 clear hb
 go_wp2
 go_ret
 rw [HL.out]
 exact ⟨rfl,H4.out,K4.out⟩
set_option maxRecDepth 100000 in
set_option maxHeartbeats 8000000 in
theorem answer_drop (hI:AnIn w0 w S b line ws) (hX:ws.headD ByteArray.empty=tDrop) (hlen_:ws.length=2):AnOk w0 w S b line ws:=by
 have HI:=Lib.hid hI
 obtain ⟨hl1,hp0,hlen,HSZ⟩:=hI.fs
 have hsz:=hI.hsz
 obtain ⟨hd,hhd⟩:∃ x,x=ws.headD ByteArray.empty:=⟨_,rfl⟩
 obtain ⟨a1,a2,a3,a4,a5⟩:=HG_tDrop (hhd.trans hX)
 obtain ⟨b1,b2,b3⟩:=LF_head hI.hws hX (by decide) (by decide) (by decide)
 have e_len:(((ws.length:Nat):Int) == 2)=true:=by rw [hlen_];rfl
 have HHD:=Lib.hid hhd
 have HL:=Lib.hid (lineR_drop (b:=b) hX hlen_)
 have i1:(1:Int)<ws.length:=by omega
 have L2:=Lib.hid hlen_
 clear hI hhd hX hlen_
 unfold AnOk
 go_enter Tryz.func11,Tryz.ntmps11
 go_wp2_with (fail)
 refine (split_any line 32 ⟨#[32]⟩ rfl _ (by omega) HI.out.h.gl).mono ?_
 rintro e w1 ⟨p,rfl,hp,hb⟩
 rw [← HI.out.hws] at hp
 obtain ⟨g,c,rfl,hg0,hg1,csp,hcsp⟩:=Kd.R_form hp hp0
 have g0:w1.cell? ⟨g,0,none⟩=some (.string hd):=strCell hp 0 (by rw [HHD.out];exact head_get hp0)
 have HW:=Lib.hid hp
 have B1:=Lib.hid hb
 have H1:=Lib.hid (HI.out.h.below hb)
 clear hp hb hg0 hg1 hcsp csp
 obtain ⟨n1,hn1⟩:∃ x,x=ws.getD 1 ByteArray.empty:=⟨_,rfl⟩
 have g1:w1.cell? ⟨g,1,none⟩=some (.string n1):=by rw [hn1];exact strCell HW.out 1 (get_word (by rw [L2.out];decide))
 rw [← hn1] at HL
 clear hn1
 obtain ⟨A0,c0,A1,c1,A2,c2,hbx,hrd⟩:=H1.out.form
 have HRD:=Lib.hid hrd
 have hS0:Hid (w1.cell? ⟨S,0,none⟩=some (.slice A0 b.f0.length c0)∧w1.cell? ⟨S,1,none⟩=some (.slice A1 b.f1.length c1)∧w1.cell? ⟨S,2,none⟩=some (.slice A2 b.f2.length c2)∧w1.cell? ⟨g,1,none⟩=some (.string n1)):=⟨(blk_cell hbx 0).trans rfl,(blk_cell hbx 1).trans rfl,(blk_cell hbx 2).trans rfl,g1⟩
 have KS:Hid (∀ V,Below w1.heap.size w1 V→V.cell? ⟨S,0,none⟩=some (.slice A0 b.f0.length c0)∧V.cell? ⟨S,1,none⟩=some (.slice A1 b.f1.length c1)∧V.cell? ⟨S,2,none⟩=some (.slice A2 b.f2.length c2)∧V.cell? ⟨g,1,none⟩=some (.string n1)):=fun V h=>⟨pw_cell_below h hS0.out.1,pw_cell_below h hS0.out.2.1,pw_cell_below h hS0.out.2.2.1,pw_cell_below h hS0.out.2.2.2⟩
 clear hS0 hbx hrd g1
 go_upto_region 10 with (fail)
 have b0:Hid (Below w1.heap.size w1 w1.drew):=pw_below_drewN (Below.refl _ _) 1
 refine start_ (n:=13) (S:=fun w'=>w'.cell? ⟨S,0,none⟩=some (.slice A0 b.f0.length c0)∧w'.cell? ⟨S,1,none⟩=some (.slice A1 b.f1.length c1)∧w'.cell? ⟨S,2,none⟩=some (.slice A2 b.f2.length c2)∧w'.cell? ⟨g,1,none⟩=some (.string n1)) (ds:=[11,12]) #[false,false,false,false,false,false,false,false,false,false,false,false,false] (by kernel_rfl) rfl rfl (KS.out _ b0.out) (fun hHeld => ?_)
 refine pureA 0 (h := ?_)
 refine pureA 1 (h := ?_)
 refine pureA 2 (h := ?_)
 refine pureA 3 (h := ?_)
 refine pureA 5 (h := ?_)
 refine pureA 6 (h := ?_)
 refine takeA 4 hHeld (h := ?_)
 refine takeA 7 hHeld (h := ?_)
 generalize w1.drew=V0 at hHeld b0 ⊢
 refine oneA 8 (h:=fun K hK => ?_)
 go_simp
 have hrb:=(HRD.out.below b0.out).form_D
 refine (impl_flowDrop_any A0 c0 A1 c1 A2 c2 b n1 V0 hrb.1 hrb.2.1 hrb.2.2).mono ?_
 rintro e w2 ⟨u0,u1,u2,rfl,ho,hb⟩
 go_simp
 have b2:Hid (Below w1.heap.size w1 w2):=b0.out.trans (hb.mono b0.out.size)
 have hSl:S+1≤V0.heap.size:=Nat.le_trans H1.out.lt b0.out.size
 have RD:=Lib.hid (ho.rd.lower hSl)
 clear ho hb hrb
 refine hK.out _ _ (KS.out _ b2.out) (fun hHeld => ?_)
 clear hK K
 refine pureA 9 (h := ?_)
 refine pureA 10 (h := ?_)
 refine lastA 11 (h:=fun K hK => ?_)
 go_simp
 have hc:=dropR_code b n1
 refine (came_any (H1.out.below b2.out) RD.out hc.1 (by omega) (dropR_same HI.out.hok n1)).mono ?_
 rintro e w3 ⟨rfl,hses,hkb⟩
 go_simp
 have H3:=Lib.hid hses
 have K3:=Lib.hid ((KeepBut.of_below (below_next B1.out B1.out.size b2.out) S none).trans hkb (.inl rfl))
 clear hses hkb hc
 refine hK.out _ _ ?_
 clear hK K
 refine lastA 12 (h:=fun K hK => ?_)
 go_simp
 refine hK.out _ _ ?_
 clear hK K
 refine doneA (h := ?_)
 go_wp2
 go_ret
 rw [HL.out]
 exact ⟨rfl,H3.out,K3.out⟩
set_option maxRecDepth 100000 in
set_option maxHeartbeats 8000000 in
theorem answer_bound (hI:AnIn w0 w S b line ws) (hX:ws.headD ByteArray.empty=tBound) (hlen_:ws.length=2):AnOk w0 w S b line ws:=by
 have HI:=Lib.hid hI
 obtain ⟨hl1,hp0,hlen,HSZ⟩:=hI.fs
 have hsz:=hI.hsz
 obtain ⟨hd,hhd⟩:∃ x,x=ws.headD ByteArray.empty:=⟨_,rfl⟩
 obtain ⟨a1,a2,a3,a4,a5⟩:=HG_tBound (hhd.trans hX)
 obtain ⟨b1,b2,b3⟩:=LF_head hI.hws hX (by decide) (by decide) (by decide)
 have e_len:(((ws.length:Nat):Int) == 2)=true:=by rw [hlen_];rfl
 have HHD:=Lib.hid hhd
 have HL:=Lib.hid (lineR_bound (b:=b) hX hlen_)
 have i1:(1:Int)<ws.length:=by omega
 have L2:=Lib.hid hlen_
 clear hI hhd hX hlen_
 unfold AnOk
 go_enter Tryz.func11,Tryz.ntmps11
 go_wp2_with (fail)
 refine (split_any line 32 ⟨#[32]⟩ rfl _ (by omega) HI.out.h.gl).mono ?_
 rintro e w1 ⟨p,rfl,hp,hb⟩
 rw [← HI.out.hws] at hp
 obtain ⟨g,c,rfl,hg0,hg1,csp,hcsp⟩:=Kd.R_form hp hp0
 have g0:w1.cell? ⟨g,0,none⟩=some (.string hd):=strCell hp 0 (by rw [HHD.out];exact head_get hp0)
 have HW:=Lib.hid hp
 have B1:=Lib.hid hb
 have H1:=Lib.hid (HI.out.h.below hb)
 clear hp hb hg0 hg1 hcsp csp
 obtain ⟨n1,hn1⟩:∃ x,x=ws.getD 1 ByteArray.empty:=⟨_,rfl⟩
 have g1:w1.cell? ⟨g,1,none⟩=some (.string n1):=by rw [hn1];exact strCell HW.out 1 (get_word (by rw [L2.out];decide))
 rw [← hn1] at HL
 clear hn1
 obtain ⟨A0,c0,A1,c1,A2,c2,hbx,hrd⟩:=H1.out.form
 have hr:=hrd.form_D
 have HR0:=Lib.hid hr.1
 have HR1:=Lib.hid hr.2.1
 have m0:=After.cell ((blk_cell hbx 0).trans rfl)
 have m1:=After.cell ((blk_cell hbx 1).trans rfl)
 have m3:=After.cell g1
 obtain ⟨bd,hbd⟩:∃ x,x=boundP b.f0 b.f1 n1:=⟨_,rfl⟩
 have hbs:=boundP_small b.f0 b.f1 n1
 rw [← hbd] at hbs HL
 have QB:=Lib.hid (fun (u:After w1)=>impl_bound_any A0 c0 b.f0 A1 c1 b.f1 n1 u.w (Kd.C_below HR0.out u.hb) (Kd.C_below HR1.out u.hb))
 rw [show boundN b.f0 b.f1 n1=bd from hbd.symm] at QB
 have QI:=Lib.hid (fun (u:After w1)=>itoa_any bd hbs.1 (by omega) u.w (H1.out.below u.hb).gl)
 clear hbx hrd hr g1 hbd
 go_wp2
 refine wp_region_after (by kernel_rfl) (by kernel_rfl) ?_
 repeat (go_big_quiet_step (first | (go_at_call 44;exact calls_after (QB.out _)) | (go_at_call 42;exact calls_after (QI.out _))))
 refine wpQuiet_nil ?_
 intro _ hw'
 obtain ⟨u,hw''⟩:=hw'
 subst hw''
 go_wp2
 go_ret
 rw [HL.out]
 exact ⟨rfl,H1.out.below u.hb,KeepBut.of_below (below_next B1.out B1.out.size u.hb) S none⟩
end
theorem runs_join {l:List Run} (h:l≠[]):(⟨(Lib.join ((l.map Core.runT).map (·.data.toList)) [32]).toArray⟩:ByteArray)=runsT l:=by
 rw [runsT_some h]
 unfold runsTo mkB
 rw [List.take_length,List.map_map]
 rfl
theorem runs_join_len {l:List Flight} {s:List Int} {sec:ByteArray} (h:runsB l s sec≠[]):(Lib.join (((runsB l s sec).map Core.runT).map (·.data.toList)) [32]).length≤600000:=by
 have h1:=runsT_size l s sec
 rw [← runs_join h] at h1
 have h2:∀ x:List UInt8,(⟨x.toArray⟩:ByteArray).size=x.length:=fun x=>by simp [ByteArray.size]
 rwa [h2] at h1
section
variable {w0 w:World} {S:Nat} {b:Book} {line:ByteArray} {ws:List ByteArray}
set_option maxRecDepth 100000 in
set_option maxHeartbeats 8000000 in
theorem answer_load (hI:AnIn w0 w S b line ws) (hX:ws.headD ByteArray.empty=tLoad) (hlen_:ws.length=2):AnOk w0 w S b line ws:=by
 have HI:=Lib.hid hI
 obtain ⟨hl1,hp0,hlen,HSZ⟩:=hI.fs
 have hsz:=hI.hsz
 obtain ⟨hd,hhd⟩:∃ x,x=ws.headD ByteArray.empty:=⟨_,rfl⟩
 obtain ⟨a1,a2,a3,a4,a5⟩:=HG_tLoad (hhd.trans hX)
 obtain ⟨b1,b2,b3⟩:=LF_head hI.hws hX (by decide) (by decide) (by decide)
 have e_len:(((ws.length:Nat):Int) == 2)=true:=by rw [hlen_];rfl
 have HHD:=Lib.hid hhd
 have HL:=Lib.hid (lineR_load (b:=b) hX hlen_)
 have i1:(1:Int)<ws.length:=by omega
 have L2:=Lib.hid hlen_
 clear hI hhd hX hlen_
 unfold AnOk
 go_enter Tryz.func11,Tryz.ntmps11
 go_wp2_with (fail)
 refine (split_any line 32 ⟨#[32]⟩ rfl _ (by omega) HI.out.h.gl).mono ?_
 rintro e w1 ⟨p,rfl,hp,hb⟩
 rw [← HI.out.hws] at hp
 obtain ⟨g,c,rfl,hg0,hg1,csp,hcsp⟩:=Kd.R_form hp hp0
 have g0:w1.cell? ⟨g,0,none⟩=some (.string hd):=strCell hp 0 (by rw [HHD.out];exact head_get hp0)
 have HW:=Lib.hid hp
 have B1:=Lib.hid hb
 have H1:=Lib.hid (HI.out.h.below hb)
 clear hp hb hg0 hg1 hcsp csp
 obtain ⟨n1,hn1⟩:∃ x,x=ws.getD 1 ByteArray.empty:=⟨_,rfl⟩
 have g1:w1.cell? ⟨g,1,none⟩=some (.string n1):=by rw [hn1];exact strCell HW.out 1 (get_word (by rw [L2.out];decide))
 rw [← hn1] at HL
 clear hn1
 obtain ⟨A0,c0,A1,c1,A2,c2,hbx,hrd⟩:=H1.out.form
 have HRD:=Lib.hid hrd
 have hS0:Hid (w1.cell? ⟨S,1,none⟩=some (.slice A1 b.f1.length c1)∧w1.cell? ⟨S,2,none⟩=some (.slice A2 b.f2.length c2)∧w1.cell? ⟨g,1,none⟩=some (.string n1)):=⟨(blk_cell hbx 1).trans rfl,(blk_cell hbx 2).trans rfl,g1⟩
 have KS:Hid (∀ V,Below w1.heap.size w1 V→V.cell? ⟨S,1,none⟩=some (.slice A1 b.f1.length c1)∧V.cell? ⟨S,2,none⟩=some (.slice A2 b.f2.length c2)∧V.cell? ⟨g,1,none⟩=some (.string n1)):=fun V h=>⟨pw_cell_below h hS0.out.1,pw_cell_below h hS0.out.2.1,pw_cell_below h hS0.out.2.2⟩
 have ba:Hid (Below w1.heap.size w1 (w1.alloc (.cells #[] 9))):=below_alloc (Below.refl _ _) _
 have OA:Hid (Kd.R Kd.string 9 (w1.alloc (.cells #[] 9)) w1.heap.size (fun _=>True) (.slice (some ⟨w1.heap.size,0,none⟩) 0 0) []):=R_madeF Kd.string w1 9 (by decide)
 clear hS0 hbx hrd g1
 go_upto_region 21 with (fail)
 have b0:Hid (Below w1.heap.size w1 (w1.alloc (.cells #[] 9)).drew):=pw_below_drewN ba.out 1
 have OB:Hid (Kd.R Kd.string 9 (w1.alloc (.cells #[] 9)).drew w1.heap.size (fun _=>True) (.slice (some ⟨w1.heap.size,0,none⟩) 0 0) []):=Kd.R_drewN OA.out 1
 refine start_ (n:=16) (S:=fun w'=>w'.cell? ⟨S,1,none⟩=some (.slice A1 b.f1.length c1)∧w'.cell? ⟨S,2,none⟩=some (.slice A2 b.f2.length c2)∧w'.cell? ⟨g,1,none⟩=some (.string n1)) (ds:=[]) #[false,false,false,false,false,false,false,false,false,false,false,false,false,false,false,false] (by kernel_rfl) rfl rfl (KS.out _ b0.out) (fun hHeld => ?_)
 refine pureA 0 (h := ?_)
 refine pureA 1 (h := ?_)
 refine pureA 2 (h := ?_)
 refine pureA 3 (h := ?_)
 refine pureA 5 (h := ?_)
 refine pureA 6 (h := ?_)
 refine pureA 7 (h := ?_)
 refine pureA 8 (h := ?_)
 refine pureA 10 (h := ?_)
 refine pureA 11 (h := ?_)
 refine pureA 15 (h := ?_)
 refine takeA 4 hHeld (h := ?_)
 refine takeA 9 hHeld (h := ?_)
 refine takeA 12 hHeld (h := ?_)
 generalize (w1.alloc (.cells #[] 9)).drew=V0 at hHeld b0 OB ⊢
 refine oneA 13 (h:=fun K hK => ?_)
 go_simp
 have hrb:=(HRD.out.below b0.out).form_D
 refine (impl_runs_any A1 c1 b.f1 A2 c2 b.f2 n1 V0 hrb.2.1 hrb.2.2).mono ?_
 rintro e w2 ⟨v,rfl,hv,hb⟩
 go_simp
 have bw2:Hid (Below w1.heap.size w1 w2):=b0.out.trans (hb.mono b0.out.size)
 obtain ⟨AR,cR,rfl⟩:=Kd.R_slice hv
 have HV:=Lib.hid (Kd.R_lower hv (show w1.heap.size≤V0.heap.size from b0.out.size))
 have OC:=Lib.hid (Kd.R_below OB.out hb)
 clear hv hb hrb
 refine hK.out _ _ (KS.out _ bw2.out) (fun hHeld => ?_)
 clear hK K
 refine pureA 14 (h := ?_)
 refine doneA (h := ?_)
 obtain ⟨l,hl⟩:∃ l,l=runsB b.f1 b.f2 n1:=⟨_,rfl⟩
 have HRS:=Lib.hid (runsB_small b.f1 b.f2 n1)
 have HJL:=Lib.hid (runs_join_len (l:=b.f1) (s:=b.f2) (sec:=n1))
 have hll:l.length≤10000000:=by rw [hl];exact runsB_len _ _ _
 rw [← hl] at HV HL HRS HJL ⊢
 clear hl KS b0 OA OB ba HRD a1 a2 a3 a4 a5 b1 b2 b3 e_len g0
 go_wp2
 go_loopw [8,137] (fun x vk wr=>∃ (k:Nat),vk = .int .i64 k∧k≤l.length∧Hid (Kd.R Kd.string 9 wr w1.heap.size (fun _=>True) x ((l.take k).map Core.runT))∧Hid (Kd.R k74 74 wr w1.heap.size (fun _=>True) (.slice AR l.length cR) l)∧Hid (Below w1.heap.size w1 wr)) (fun _ vk _=>l.length-(intOf vk).toNat)
 case atStart=>exact ⟨0,rfl,Nat.zero_le _,OC,HV,bw2⟩
 case round =>
  obtain ⟨k,rfl,hk,HO,HVR,HB1⟩:=hrel
  obtain ⟨wq,rfl⟩:∃ wo:World,wo=wr:=⟨_,rfl⟩
  obtain ⟨Ax,cx,rfl⟩:=Kd.R_slice HO.out
  have hzl:((l.take k).map Core.runT).length=k:=by rw [List.length_map,List.length_take];omega
  rw [hzl] at HO ⊢
  have HZL:=Lib.hid hzl
  clear hzl
  by_cases hlt:k<l.length
  ·have j1:(k:Int)<l.length:=by omega
   obtain ⟨ad,x,rfl,hx,f0,f1,f2⟩:=runAtC (Kd.R_reads' HVR.out).2.2 k hlt
   obtain ⟨k0,k1,k2⟩:=HRS.out x (List.mem_of_getElem? hx)
   have z0:=decS_size k0.1 (by omega)
   have z1:=decS_size k1.1 (by omega)
   have z2:=decS_size k2.1 (by omega)
   have q1:¬ (9223372036854775807:Nat)<(decS x.f0).size+1:=by omega
   have q2:¬ (9223372036854775807:Nat)<(decS x.f0).size+1+(decS x.f1).size:=by omega
   have q3:¬ (9223372036854775807:Nat)<(decS x.f0).size+1+(decS x.f1).size+1:=by omega
   have q4:¬ (9223372036854775807:Nat)<(decS x.f0).size+1+(decS x.f1).size+1+(decS x.f2).size:=by omega
   have HX:=Lib.hid hx
   clear hx
   have hal:Below wq.heap.size wq (wq.alloc (.cells #[.int .i64 x.f0, .int .i64 x.f1, .int .i64 x.f2] 74)):=below_alloc (Below.refl _ _) _
   have T4:=Lib.hid (blk_new wq (.cells #[.int .i64 x.f0, .int .i64 x.f1, .int .i64 x.f2] 74))
   have HO4:=Lib.hid (Kd.R_below HO.out hal)
   have HVa:=Lib.hid (Kd.R_below HVR.out hal)
   have HB1a:=Lib.hid (below_next HB1.out HB1.out.size hal)
   have hTo:Hid (∀ j,(Value.slice Ax k cx).ownBlock=some j→w1.heap.size≤j):=fun j hj=>Kd.R_base HO.out j hj
   go_upto_region 24 with (fail)
   clear f0 f1 f2 hal HO HVR HB1
   obtain ⟨W4,hW4⟩:∃ W,W=wq.alloc (.cells #[.int .i64 x.f0, .int .i64 x.f1, .int .i64 x.f2] 74):=⟨_,rfl⟩
   rw [← hW4] at T4 HO4 HVa HB1a ⊢
   clear hW4
   have KS4:Hid (∀ V,Below W4.heap.size W4 V→V.cell? ⟨wq.heap.size,0,none⟩=some (.int .i64 x.f0)∧V.cell? ⟨wq.heap.size,1,none⟩=some (.int .i64 x.f1)∧V.cell? ⟨wq.heap.size,2,none⟩=some (.int .i64 x.f2)):=fun V h=>⟨(blk_cell (blk_below T4.out h) 0).trans rfl,(blk_cell (blk_below T4.out h) 1).trans rfl,(blk_cell (blk_below T4.out h) 2).trans rfl⟩
   have b4:Hid (Below W4.heap.size W4 W4.drew):=pw_below_drewN (Below.refl _ _) 1
   refine start_ (n:=17) (S:=fun w'=>w'.cell? ⟨wq.heap.size,0,none⟩=some (.int .i64 x.f0)∧w'.cell? ⟨wq.heap.size,1,none⟩=some (.int .i64 x.f1)∧w'.cell? ⟨wq.heap.size,2,none⟩=some (.int .i64 x.f2)) (ds:=[15,16]) #[false,false,false,false,false,false,false,false,false,false,false,false,false,false,false,false,false] (by kernel_rfl) rfl rfl (KS4.out _ b4.out) (fun hHeld => ?_)
   refine pureA 0 (h := ?_)
   refine pureA 1 (h := ?_)
   refine pureA 5 (h := ?_)
   refine pureA 10 (h := ?_)
   refine takeA 2 hHeld (h := ?_)
   refine takeA 6 hHeld (h := ?_)
   refine takeA 11 hHeld (h := ?_)
   generalize W4.drew=V0 at hHeld b4 ⊢
   refine oneA 3 (h:=fun K hK => ?_)
   go_simp
   refine (itoa_any x.f0 k0.1 (by omega) V0 ((HI.out.h.below (below_next B1.out B1.out.size (HB1a.out.trans (b4.out.mono HB1a.out.size)))).gl)).mono ?_
   rintro e V1 ⟨rfl,hb⟩
   go_simp
   have b5:Hid (Below W4.heap.size W4 V1):=b4.out.trans (hb.mono b4.out.size)
   clear hb
   refine hK.out _ _ (KS4.out _ b5.out) (fun hHeld => ?_)
   clear hK K
   refine pureA 4 (h := ?_)
   refine oneA 7 (h:=fun K hK => ?_)
   go_simp
   refine (itoa_any x.f1 k1.1 (by omega) V1 ((HI.out.h.below (below_next B1.out B1.out.size (HB1a.out.trans (b5.out.mono HB1a.out.size)))).gl)).mono ?_
   rintro e V2 ⟨rfl,hb⟩
   go_simp
   have b6:Hid (Below W4.heap.size W4 V2):=b5.out.trans (hb.mono b5.out.size)
   clear hb
   refine hK.out _ _ (KS4.out _ b6.out) (fun hHeld => ?_)
   clear hK K
   refine pureA 8 (h := ?_)
   refine pureA 9 (h := ?_)
   refine oneA 12 (h:=fun K hK => ?_)
   go_simp
   refine (itoa_any x.f2 k2.1 (by omega) V2 ((HI.out.h.below (below_next B1.out B1.out.size (HB1a.out.trans (b6.out.mono HB1a.out.size)))).gl)).mono ?_
   rintro e V3 ⟨rfl,hb⟩
   go_simp
   have b7:Hid (Below W4.heap.size W4 V3):=b6.out.trans (hb.mono b6.out.size)
   clear hb
   refine hK.out _ _ (KS4.out _ b7.out) (fun hHeld => ?_)
   clear hK K
   refine pureA 13 (h := ?_)
   have HO5:=Lib.hid (Kd.R_below HO4.out b7.out)
   have HB5:Hid (Below w1.heap.size w1 V3):=HB1a.out.trans (b7.out.mono HB1a.out.size)
   have HV5:=Lib.hid (Kd.R_below HVa.out b7.out)
   have hog:Hid (∀ j,(Value.slice Ax k cx).ownBlock=some j→w1.heap.size≤j):=hTo
   refine oneA 14 (h:=fun K hK => ?_)
   go_simp
   refine hK.out _ _ (KS4.out _ (b7.out.trans ((below_alloc (Below.refl _ _) _).mono b7.out.size))) (fun hHeld => ?_)
   clear hK K
   refine lastA 15 (h:=fun K hK => ?_)
   refine Kd.R_append_step Kd.string (w0:=w1) w1.heap.size (by rfl) (.tmp 141) (.tmp 155) 27 9 (.string ByteArray.empty) 16 (by rfl) Tryz.underlying27 infoString rfl (by decide) (by decide) (.slice Ax k cx) ((l.take k).map Core.runT) (Core.runT x) [.string (Core.runT x)] (fun _=>True) (fun _=>False) (by rfl) (by rfl) rfl (fun _ h=>h.elim) (fun _ _=>trivial) HO5.out HB5.out HB5.out.size (by rw [HZL.out];omega) ?_
   intro v9 w9 ho hb hg hat
   obtain ⟨A9,c9,rfl⟩:=Kd.R_slice ho
   rw [List.length_append,HZL.out] at ho ⊢
   have HO9:=Lib.hid ho
   have HV9:=Lib.hid (Kd.R_over' HV5.out (Kd.R_typed HO5.out) (by decide) hg)
   have HB9:=Lib.hid hb
   clear ho hb hat hg
   refine hK.out _ _ ?_
   clear hK K
   refine lastA 16 (h:=fun K hK => ?_)
   go_simp
   refine hK.out _ _ ?_
   clear hK K
   refine doneA (h := ?_)
   have HN:Hid (Kd.R Kd.string 9 w9 w1.heap.size (fun _=>True) (.slice A9 (k+[Core.runT x].length) c9) ((l.take (k+1)).map Core.runT)):=by have t:=HO9.out;show Kd.R _ _ _ _ _ _ _;rw [List.take_add_one,HX.out,Option.toList_some,List.map_append,List.map_singleton];exact t
   clear HO9
   go_wp2
   go_roundw
   case rel=>exact ⟨k+1,by go_num,hlt,HN,HV9,HB9⟩
   case measure=>simp [intOf];omega
  ·obtain rfl:k=l.length:=by omega
   have hO:Kd.R Kd.string 9 wq w1.heap.size (fun _=>True) (.slice Ax l.length cx) (l.map Core.runT):=by have t:=HO.out;rwa [List.take_length] at t
   have HS:=Lib.hid (H1.out.below HB1.out)
   have HBw:=Lib.hid (below_next B1.out B1.out.size HB1.out)
   by_cases hn:l.length=0
   ·have e0:(((l.length:Nat):Int) == 0)=true:=by rw [hn];rfl
    have HN:=Lib.hid (List.length_eq_zero_iff.1 hn)
    clear hn
    go_wp2
    go_ret
    rw [HL.out,HN.out]
    exact ⟨rfl,HS.out,KeepBut.of_below HBw.out S none⟩
   ·have e0:(((l.length:Nat):Int) == 0)=false:=by rw [beq_eq_false_iff_ne];omega
    have hne:l≠[]:=fun h=>hn (by rw [h];rfl)
    obtain ⟨gj,cj,hf,hj0,hj1,csj,hcsj⟩:=Kd.R_form hO (by rw [List.length_map];omega)
    injection hf with ea en ec
    subst ea ec
    have hcap:=(Kd.R_reads' hO).2.1
    have qj:=Tryz.strings_Join gj 0 cx (l.map Core.runT) ⟨#[32]⟩ wq (fun j y hj=>by rw [Nat.zero_add];exact strCell hO j hj) hj1 (by rw [List.length_map];omega) (by rw [List.length_map];exact hcap) (Nat.le_trans (HJL.out hne) (by decide))
    rw [List.length_map] at qj
    have QJ:=Lib.hid qj
    have HJ:=Lib.hid (runs_join hne)
    clear qj hO hne hn en hj0 hj1 hcsj csj hcap
    go_wp2_with (fail)
    refine QJ.out.mono ?_
    rintro e w5 ⟨rfl,hb⟩
    have HS5:=Lib.hid (HS.out.below hb)
    have HB5:=Lib.hid (below_next HBw.out HBw.out.size hb)
    clear hb
    go_wp2
    go_ret
    rw [HL.out]
    exact ⟨ret_str (by have t:=HJ.out;rw [List.map_map] at t;exact t),HS5.out,KeepBut.of_below HB5.out S none⟩
end
theorem answer_any {w0 w:World} {S:Nat} {b:Book} (h:Ses w0 w S b) (hok:okB b=true) (line:ByteArray) (hsz:line.size≤100000) :
  Calls Tryz.prog 11 #[.pointer (some ⟨S,0,none⟩), .string line] w fun e w'=>e = .returned (.string (lineR b (cutB 32 line)).2)∧Ses w0 w' S (lineR b (cutB 32 line)).1∧KeepBut w w' S none:=by
 have hI:AnIn w0 w S b line (cutB 32 line):=⟨h,hok,hsz,rfl⟩
 show AnOk w0 w S b line (cutB 32 line)
 by_cases h1:(cutB 32 line).headD ByteArray.empty=tCap∧(cutB 32 line).length=3
 ·exact answer_cap hI h1.1 h1.2
 by_cases h2:(cutB 32 line).headD ByteArray.empty=tAdd∧5≤(cutB 32 line).length
 ·exact answer_add hI h2.1 h2.2
 by_cases h3:(cutB 32 line).headD ByteArray.empty=tDrop∧(cutB 32 line).length=2
 ·exact answer_drop hI h3.1 h3.2
 by_cases h4:(cutB 32 line).headD ByteArray.empty=tLoad∧(cutB 32 line).length=2
 ·exact answer_load hI h4.1 h4.2
 by_cases h5:(cutB 32 line).headD ByteArray.empty=tBound∧(cutB 32 line).length=2
 ·exact answer_bound hI h5.1 h5.2
 by_cases l1:line=tCompress
 ·exact answer_compress hI l1
 by_cases l2:line=tAgain
 ·exact answer_again hI l2
 by_cases l3:line=tSlots
 ·exact answer_slots hI l3
 exact answer_bad hI ⟨h1,h2,h3,h4,h5,l1,l2,l3⟩
theorem lines_cut {t:ByteArray} (h:(cutB 10 t)[(cutB 10 t).length-1]? = some ByteArray.empty):linesB t=(cutB 10 t).take ((cutB 10 t).length-1):=by
 unfold linesB
 rw [if_pos (by rw [List.getLast?_eq_getElem?];exact h),List.dropLast_eq_take]
theorem lines_all {t:ByteArray} (h:¬ (cutB 10 t)[(cutB 10 t).length-1]? = some ByteArray.empty):linesB t=cutB 10 t:=by
 unfold linesB
 rw [if_neg (by rw [List.getLast?_eq_getElem?];exact h)]
theorem lines_mem {t s:ByteArray} (h:s∈linesB t):s.size≤t.size:=by
 unfold linesB at h
 split at h
 ·exact cutB_mem ((List.dropLast_sublist _).mem h)
 ·exact cutB_mem h
theorem lines_len (t:ByteArray):(linesB t).length≤t.size+1:=by
 have h:=(cutB_len 10 t).2
 unfold linesB
 split
 ·rw [List.length_dropLast];omega
 ·exact h
def tLong:ByteArray:=⟨#[116,111,111,32,108,111,110,103,10]⟩
theorem session_long {t:ByteArray} (h:10000<t.size∨200<(linesB t).length):sessionB t=tLong:=if_pos h
theorem session_short {t:ByteArray} (h1:¬ 10000<t.size) (h2:¬ 200<(linesB t).length):sessionB t=(playTo (linesB t)).2:=if_neg (fun h=>h.elim h1 h2)
set_option maxRecDepth 100000 in
set_option maxHeartbeats 8000000 in
theorem implSession_any (text:ByteArray) (w:World) (hg:Gl w) (hs:text.size≤1048576) :
  Calls Tryz.prog 6 #[.string text] w fun e w'=>e = .returned (.string (sessionB text))∧Below w.heap.size w w':=by
 have HG:=Lib.hid hg
 clear hg
 go_enter Tryz.func6,Tryz.ntmps6
 go_wp2_with (fail)
 refine (split_any text 10 ⟨#[10]⟩ rfl _ (by omega) HG.out).mono ?_
 rintro e w1 ⟨p,rfl,hp,hb⟩
 have hl1:=(cutB_len 10 text)
 obtain ⟨g,c,rfl,hg0,hg1,csp,hcsp⟩:=Kd.R_form hp (by omega)
 have hcap:=(Kd.R_reads' hp).2.1
 have hle:(cutB 10 text).length-1<(cutB 10 text).length:=by omega
 obtain ⟨la,hla⟩:∃ la,(cutB 10 text)[(cutB 10 text).length-1]? = some la:=⟨_,List.getElem?_eq_getElem hle⟩
 have gl:=strCell hp _ hla
 have HLA:=Lib.hid hla
 obtain ⟨n,hn⟩:∃ n,n=(cutB 10 text).length:=⟨_,rfl⟩
 have HP:=Lib.hid hp
 have B1:=Lib.hid hb
 rw [← hn] at gl HP HLA hl1 hle hcap ⊢
 have HN:=Lib.hid hn
 have m1:IntKind.i64.wrap ((n:Int)-1)=((n-1:Nat):Int):=(IntWalk.i64_in _ (by omega)).trans (by omega)
 have m2:((n-1:Nat):Int)<(n:Int):=by omega
 have m3:((n-1:Nat):Int)≤(c:Int):=by omega
 clear hp hb hcsp csp hla hn
 by_cases hem:la=⟨#[]⟩
 ·have e1:=emp_yes hem
  have HL:Hid (linesB text=(cutB 10 text).take (n-1)):=by
   show _=_
   rw [HN.out]
   exact lines_cut (by have:=HLA.out;rw [HN.out,hem] at this;exact this)
  have HR0:=Lib.hid (Kd.R_take (m:=n-1) HP.out (by rw [← HN.out];omega))
  clear hem
  obtain ⟨L,hL⟩:∃ L,L=linesB text:=⟨_,rfl⟩
  have HLL:=Lib.hid hL
  have hLn:L.length=n-1:=by rw [hL,HL.out,List.length_take,← HN.out];omega
  have HR1:Hid (Kd.R Kd.string 9 w1 w.heap.size (fun _=>True) (.slice (some ⟨g,0,none⟩) L.length c) L):=by rw [← HL.out,← hL,← hLn] at HR0;exact HR0
  have HLN:=Lib.hid hLn
  clear hL HR0
  have hLb:L.length≤text.size+1:=by rw [HLL.out];exact lines_len text
  by_cases h1:10000<text.size
  ·have f1:decide ((10000:Int)<(text.size:Int))=true:=decide_eq_true (by omega)
   have f1':decide ((text.size:Int) > 10000)=true:=decide_eq_true (by omega)
   have HS:=Lib.hid (session_long (t:=text) (.inl h1))
   clear h1 hLn
   go_wp2
   go_ret
   exact ⟨ret_str HS.out.symm,B1.out⟩
  have f1:decide ((10000:Int)<(text.size:Int))=false:=decide_eq_false (by omega)
  have f1':decide ((text.size:Int) > 10000)=false:=decide_eq_false (by omega)
  by_cases h2:200<L.length
  ·have f2:decide ((200:Int)<((n-1:Nat):Int))=true:=decide_eq_true (by omega)
   have f2':decide (((n-1:Nat):Int) > 200)=true:=decide_eq_true (by omega)
   have HS:=Lib.hid (session_long (t:=text) (.inr (by rw [← HLL.out];exact h2)))
   clear h1 h2 hLn
   go_wp2
   go_ret
   exact ⟨ret_str HS.out.symm,B1.out⟩
  have f2:decide ((200:Int)<((n-1:Nat):Int))=false:=decide_eq_false (by omega)
  have f2':decide (((n-1:Nat):Int) > 200)=false:=decide_eq_false (by omega)
  have HS:=Lib.hid (session_short (t:=text) h1 (by rw [← HLL.out];exact h2))
  rw [← HLL.out] at HS
  have hal:Below w1.heap.size w1 (w1.alloc (.cells #[.slice none 0 0, .slice none 0 0, .slice none 0 0] 39)):=below_alloc (Below.refl _ _) _
  have S2:Hid (Ses w (w1.alloc (.cells #[.slice none 0 0, .slice none 0 0, .slice none 0 0] 39)) w1.heap.size emptyB):=⟨⟨_,_,_,blk_new w1 _,(emptyO _ _).rd⟩,below_next B1.out B1.out.size hal,B1.out.size,HG.out⟩
  have R2:Hid (Kd.R Kd.string 9 (w1.alloc (.cells #[.slice none 0 0, .slice none 0 0, .slice none 0 0] 39)) w.heap.size (fun j=>j<w1.heap.size) (.slice (some ⟨g,0,none⟩) L.length c) L):=Kd.R_below (Kd.R_mono (Kd.R_bound HR1.out) (fun j hj=>hj.2.2.1)) hal
  clear hal
  have hL200:L.length≤200:=by omega
  have hT:text.size≤10000:=by omega
  clear h1 h2
  go_wp2
  rw [← HLN.out]
  clear hLn
  obtain ⟨S,hS⟩:∃ S,S=w1.heap.size:=⟨_,rfl⟩
  rw [← hS] at S2 R2 ⊢
  clear hS
  go_loopw [5,34] (fun vo vk wr=>∃ (k:Nat) (o:ByteArray),vk = .int .i64 k∧vo = .string o∧k≤L.length∧Hid (o=(playTo (L.take k)).2)∧Hid (Ses w wr S (playTo (L.take k)).1)∧Hid (Kd.R Kd.string 9 wr w.heap.size (fun j=>j<S) (.slice (some ⟨g,0,none⟩) L.length c) L)) (fun _ vk _=>L.length-(intOf vk).toNat)
  case atStart=>exact ⟨0,_,rfl,rfl,Nat.zero_le _,rfl,S2,R2⟩
  case round =>
   clear S2 R2
   obtain ⟨k,o,rfl,rfl,hk,HO,HSe,HR⟩:=hrel
   obtain ⟨wq,rfl⟩:∃ wo:World,wo=wr:=⟨_,rfl⟩
   have hz1:(L.take k).length≤200:=by rw [List.length_take];omega
   have hz0:=Nat.le_trans (playTo_size (L.take k)) (Nat.mul_le_mul_right 700001 hz1)
   have ho:o.size≤140000200:=by rw [HO.out];exact hz0
   clear hz1 hz0
   by_cases hlt:k<L.length
   ·have j1:(k:Int)<L.length:=by omega
    obtain ⟨s,hs⟩:∃ s,L[k]? = some s:=⟨_,List.getElem?_eq_getElem hlt⟩
    have cs:=strCell HR.out k hs
    have hsz:s.size≤100000:=by have:=lines_mem (t:=text) (s:=s) (by rw [← HLL.out];exact List.mem_of_getElem? hs);omega
    have HSt:=Lib.hid (play_step hs)
    have hok:=playTo_ok (L.take k)
    have hz:=lineR_size hok (cutB 32 s)
    have QA:=Lib.hid (answer_any HSe.out hok s hsz)
    obtain ⟨a,ha⟩:∃ a,a=(lineR (playTo (L.take k)).1 (cutB 32 s)).2:=⟨_,rfl⟩
    rw [← ha] at QA hz
    have HA:=Lib.hid ha
    have q1:¬ (9223372036854775807:Nat)<a.size+1:=by omega
    have q2:¬ (9223372036854775807:Nat)<o.size+(a.size+1):=by omega
    clear hs hok ha
    go_wp2_with (fail)
    refine QA.out.mono ?_
    rintro e w4 ⟨rfl,hse,hkb⟩
    have HR4:=Lib.hid (R_keep HR.out hkb (fun j hj=>Nat.ne_of_lt hj))
    have HSe4:=Lib.hid hse
    clear hse hkb cs
    go_wp2
    go_roundw
    case rel=>exact ⟨k+1,_,by go_num,rfl,hlt,by show _=_;rw [HSt.out,HO.out,HA.out,ba_assoc],by rw [HSt.out];exact HSe4.out,HR4.out⟩
    case measure=>simp [intOf];omega
   ·obtain rfl:k=L.length:=by omega
    have HE:Hid (o=sessionB text):=by show _=_;rw [HO.out,List.take_length,HS.out]
    go_wp2
    go_ret
    exact ⟨ret_str HE.out,HSe.out.L⟩
 ·have e1:=emp_no hem
  have HL:Hid (linesB text=cutB 10 text):=lines_all (by have:=HLA.out;rw [HN.out] at this;rw [this];exact fun h=>hem (Option.some.inj h))
  clear hem
  obtain ⟨L,hL⟩:∃ L,L=linesB text:=⟨_,rfl⟩
  have HLL:=Lib.hid hL
  have hLn:L.length=n:=by rw [hL,HL.out,← HN.out]
  have HR1:Hid (Kd.R Kd.string 9 w1 w.heap.size (fun _=>True) (.slice (some ⟨g,0,none⟩) L.length c) L):=by have t:=HP.out;rw [← HL.out,← hL,← hLn] at t;exact t
  have HLN:=Lib.hid hLn
  clear hL
  have hLb:L.length≤text.size+1:=by rw [HLL.out];exact lines_len text
  by_cases h1:10000<text.size
  ·have f1:decide ((10000:Int)<(text.size:Int))=true:=decide_eq_true (by omega)
   have f1':decide ((text.size:Int) > 10000)=true:=decide_eq_true (by omega)
   have HS:=Lib.hid (session_long (t:=text) (.inl h1))
   clear h1 hLn
   go_wp2
   go_ret
   exact ⟨ret_str HS.out.symm,B1.out⟩
  have f1:decide ((10000:Int)<(text.size:Int))=false:=decide_eq_false (by omega)
  have f1':decide ((text.size:Int) > 10000)=false:=decide_eq_false (by omega)
  by_cases h2:200<L.length
  ·have f2:decide ((200:Int)<((n:Nat):Int))=true:=decide_eq_true (by omega)
   have f2':decide (((n:Nat):Int) > 200)=true:=decide_eq_true (by omega)
   have HS:=Lib.hid (session_long (t:=text) (.inr (by rw [← HLL.out];exact h2)))
   clear h1 h2 hLn
   go_wp2
   go_ret
   exact ⟨ret_str HS.out.symm,B1.out⟩
  have f2:decide ((200:Int)<((n:Nat):Int))=false:=decide_eq_false (by omega)
  have f2':decide (((n:Nat):Int) > 200)=false:=decide_eq_false (by omega)
  have HS:=Lib.hid (session_short (t:=text) h1 (by rw [← HLL.out];exact h2))
  rw [← HLL.out] at HS
  have hal:Below w1.heap.size w1 (w1.alloc (.cells #[.slice none 0 0, .slice none 0 0, .slice none 0 0] 39)):=below_alloc (Below.refl _ _) _
  have S2:Hid (Ses w (w1.alloc (.cells #[.slice none 0 0, .slice none 0 0, .slice none 0 0] 39)) w1.heap.size emptyB):=⟨⟨_,_,_,blk_new w1 _,(emptyO _ _).rd⟩,below_next B1.out B1.out.size hal,B1.out.size,HG.out⟩
  have R2:Hid (Kd.R Kd.string 9 (w1.alloc (.cells #[.slice none 0 0, .slice none 0 0, .slice none 0 0] 39)) w.heap.size (fun j=>j<w1.heap.size) (.slice (some ⟨g,0,none⟩) L.length c) L):=Kd.R_below (Kd.R_mono (Kd.R_bound HR1.out) (fun j hj=>hj.2.2.1)) hal
  clear hal
  have hL200:L.length≤200:=by omega
  have hT:text.size≤10000:=by omega
  clear h1 h2
  go_wp2
  rw [← HLN.out]
  clear hLn
  obtain ⟨S,hS⟩:∃ S,S=w1.heap.size:=⟨_,rfl⟩
  rw [← hS] at S2 R2 ⊢
  clear hS
  go_loopw [5,34] (fun vo vk wr=>∃ (k:Nat) (o:ByteArray),vk = .int .i64 k∧vo = .string o∧k≤L.length∧Hid (o=(playTo (L.take k)).2)∧Hid (Ses w wr S (playTo (L.take k)).1)∧Hid (Kd.R Kd.string 9 wr w.heap.size (fun j=>j<S) (.slice (some ⟨g,0,none⟩) L.length c) L)) (fun _ vk _=>L.length-(intOf vk).toNat)
  case atStart=>exact ⟨0,_,rfl,rfl,Nat.zero_le _,rfl,S2,R2⟩
  case round =>
   clear S2 R2
   obtain ⟨k,o,rfl,rfl,hk,HO,HSe,HR⟩:=hrel
   obtain ⟨wq,rfl⟩:∃ wo:World,wo=wr:=⟨_,rfl⟩
   have hz1:(L.take k).length≤200:=by rw [List.length_take];omega
   have hz0:=Nat.le_trans (playTo_size (L.take k)) (Nat.mul_le_mul_right 700001 hz1)
   have ho:o.size≤140000200:=by rw [HO.out];exact hz0
   clear hz1 hz0
   by_cases hlt:k<L.length
   ·have j1:(k:Int)<L.length:=by omega
    obtain ⟨s,hs⟩:∃ s,L[k]? = some s:=⟨_,List.getElem?_eq_getElem hlt⟩
    have cs:=strCell HR.out k hs
    have hsz:s.size≤100000:=by have:=lines_mem (t:=text) (s:=s) (by rw [← HLL.out];exact List.mem_of_getElem? hs);omega
    have HSt:=Lib.hid (play_step hs)
    have hok:=playTo_ok (L.take k)
    have hz:=lineR_size hok (cutB 32 s)
    have QA:=Lib.hid (answer_any HSe.out hok s hsz)
    obtain ⟨a,ha⟩:∃ a,a=(lineR (playTo (L.take k)).1 (cutB 32 s)).2:=⟨_,rfl⟩
    rw [← ha] at QA hz
    have HA:=Lib.hid ha
    have q1:¬ (9223372036854775807:Nat)<a.size+1:=by omega
    have q2:¬ (9223372036854775807:Nat)<o.size+(a.size+1):=by omega
    clear hs hok ha
    go_wp2_with (fail)
    refine QA.out.mono ?_
    rintro e w4 ⟨rfl,hse,hkb⟩
    have HR4:=Lib.hid (R_keep HR.out hkb (fun j hj=>Nat.ne_of_lt hj))
    have HSe4:=Lib.hid hse
    clear hse hkb cs
    go_wp2
    go_roundw
    case rel=>exact ⟨k+1,_,by go_num,rfl,hlt,by show _=_;rw [HSt.out,HO.out,HA.out,ba_assoc],by rw [HSt.out];exact HSe4.out,HR4.out⟩
    case measure=>simp [intOf];omega
   ·obtain rfl:k=L.length:=by omega
    have HE:Hid (o=sessionB text):=by show _=_;rw [HO.out,List.take_length,HS.out]
    go_wp2
    go_ret
    exact ⟨ret_str HE.out,HSe.out.L⟩
end Go.Proofs.YthcpbojmalgdbaaGreatDoor.Q
