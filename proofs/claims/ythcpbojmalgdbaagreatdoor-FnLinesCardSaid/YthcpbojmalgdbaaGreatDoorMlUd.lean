/- Merged out of this seat's own texts. -/
import Derived.Test.YthcpbojmalgdbaaGreatDoorMlUb
import Derived.Test.YthcpbojmalgdbaaGreatDoorMlUc
set_option linter.unusedVariables false
set_option linter.unusedSimpArgs false
namespace Go.Proofs.YthcpbojmalgdbaaGreatDoor.Q
open Go.RowKit Go.Proofs.YthcpbojmalgdbaaGreatDoorW.PrintWords Go.Proofs.YthcpbojmalgdbaaGreatDoorW.PrintLast Go.Proofs.YthcpbojmalgdbaaGreatDoorW.PrintMore Go.Proofs.YthcpbojmalgdbaaGreatDoor.Core
theorem words_book:∀ q,q∈9 :: Kd.string.E→q≠33:=by decide
structure SeW (w V:World) (B g c:Nat) (L:List ByteArray) (p0 p1 p2:Value):Prop where
 P:V.heap[B]? = some (.cells #[p0,p1,p2] 33 (0,0))
 R:Kd.R Kd.string 9 V w.heap.size (fun _=>True) (.slice (some ⟨g,0,none⟩) L.length c) L
 L:Below w.heap.size w V
theorem SeW.below {w V V1:World} {B g c:Nat} {L:List ByteArray} {p0 p1 p2:Value} (h:SeW w V B g c L p0 p1 p2) (hb:Below V.heap.size V V1):SeW w V1 B g c L p0 p1 p2:=⟨blk_below h.P hb,Kd.R_below h.R hb,below_next h.L h.L.size hb⟩
theorem SeW.put {w V:World} {B g c:Nat} {L:List ByteArray} {p0 p1 p2:Value} (h:SeW w V B g c L p0 p1 p2) (hB:w.heap.size≤B) (u0 u1 u2:Value):SeW w (((V.setCell ⟨B,0,none⟩ u0).setCell ⟨B,1,none⟩ u1).setCell ⟨B,2,none⟩ u2) B g c L u0 u1 u2 :=
 ⟨blk_set (blk_set (blk_set h.P 0 u0) 1 u1) 2 u2,Kd.R_set (Kd.R_set (Kd.R_set h.R h.P words_book 0 u0) (blk_set h.P 0 u0) words_book 1 u1) (blk_set (blk_set h.P 0 u0) 1 u1) words_book 2 u2,((h.L.setCell (p:=⟨B,0,none⟩) hB u0).setCell (p:=⟨B,1,none⟩) hB u1).setCell (p:=⟨B,2,none⟩) hB u2⟩
set_option maxRecDepth 100000 in
set_option maxHeartbeats 8000000 in
theorem specSession_any (text:ByteArray) (w:World) (hs:text.size≤1048576) :
  Calls Tryz.prog 5 #[.string text] w fun e w'=>e = .returned (.string (sessionB text))∧Below w.heap.size w w':=by
 go_enter Tryz.func5,Tryz.ntmps5
 go_wp2_with (fail)
 refine (l6Cut_any text 10 10 rfl _ (by omega)).mono ?_
 rintro e w1 ⟨p,rfl,hp,hb⟩
 have hl1:=(cutB_len 10 text)
 obtain ⟨g,c,rfl,hg0,hg1,csp,hcsp⟩:=Kd.R_form hp (by omega)
 have hcap:=(Kd.R_reads' hp).2.1
 have hle:(cutB 10 text).length-1<(cutB 10 text).length:=by omega
 obtain ⟨la,hla⟩:∃ la,(cutB 10 text)[(cutB 10 text).length-1]? = some la:=⟨_,List.getElem?_eq_getElem hle⟩
 have gl:=strCell hp _ hla
 have HLA:=Lib.hid hla
 obtain ⟨n,hn⟩:∃ n,n=(cutB 10 text).length:=⟨_,rfl⟩
 have HP:=Lib.hid hp
 have B1:=Lib.hid hb
 rw [← hn] at gl HP HLA hl1 hle hcap ⊢
 have HN:=Lib.hid hn
 have m1:IntKind.i64.wrap ((n:Int)-1)=((n-1:Nat):Int):=(IntWalk.i64_in _ (by omega)).trans (by omega)
 have m2:((n-1:Nat):Int)<(n:Int):=by omega
 have m3:((n-1:Nat):Int)≤(c:Int):=by omega
 clear hp hb hcsp csp hla hn
 by_cases hem:la=⟨#[]⟩
 ·have e1:=emp_yes hem
  have HL:Hid (linesB text=(cutB 10 text).take (n-1)):=by
   show _=_
   rw [HN.out]
   exact lines_cut (by have:=HLA.out;rw [HN.out,hem] at this;exact this)
  have HR0:=Lib.hid (Kd.R_take (m:=n-1) HP.out (by rw [← HN.out];omega))
  clear hem
  obtain ⟨L,hL⟩:∃ L,L=linesB text:=⟨_,rfl⟩
  have HLL:=Lib.hid hL
  have hLn:L.length=n-1:=by rw [hL,HL.out,List.length_take,← HN.out];omega
  have HR1:Hid (Kd.R Kd.string 9 w1 w.heap.size (fun _=>True) (.slice (some ⟨g,0,none⟩) L.length c) L):=by rw [← HL.out,← hL,← hLn] at HR0;exact HR0
  have HLN:=Lib.hid hLn
  clear hL HR0
  have hLb:L.length≤text.size+1:=by rw [HLL.out];exact lines_len text
  by_cases h1:10000<text.size
  ·have f1:decide ((10000:Int)<(text.size:Int))=true:=decide_eq_true (by omega)
   have f1':decide ((text.size:Int) > 10000)=true:=decide_eq_true (by omega)
   have HS:=Lib.hid (session_long (t:=text) (.inl h1))
   clear h1 hLn
   go_wp2
   go_ret
   exact ⟨ret_str HS.out.symm,B1.out⟩
  have f1:decide ((10000:Int)<(text.size:Int))=false:=decide_eq_false (by omega)
  have f1':decide ((text.size:Int) > 10000)=false:=decide_eq_false (by omega)
  by_cases h2:200<L.length
  ·have f2:decide ((200:Int)<((n-1:Nat):Int))=true:=decide_eq_true (by omega)
   have f2':decide (((n-1:Nat):Int) > 200)=true:=decide_eq_true (by omega)
   have HS:=Lib.hid (session_long (t:=text) (.inr (by rw [← HLL.out];exact h2)))
   clear h1 h2 hLn
   go_wp2
   go_ret
   exact ⟨ret_str HS.out.symm,B1.out⟩
  have f2:decide ((200:Int)<((n-1:Nat):Int))=false:=decide_eq_false (by omega)
  have f2':decide (((n-1:Nat):Int) > 200)=false:=decide_eq_false (by omega)
  have HS:=Lib.hid (session_short (t:=text) h1 (by rw [← HLL.out];exact h2))
  rw [← HLL.out] at HS
  have hal:Below w1.heap.size w1 (w1.alloc (.cells #[.slice none 0 0, .slice none 0 0, .slice none 0 0] 33)):=below_alloc (Below.refl _ _) _
  have S2:Hid (SeW w (w1.alloc (.cells #[.slice none 0 0, .slice none 0 0, .slice none 0 0] 33)) w1.heap.size g c L (.slice none 0 0) (.slice none 0 0) (.slice none 0 0)):=⟨blk_new w1 _,Kd.R_below HR1.out hal,below_next B1.out B1.out.size hal⟩
  have E2:Hid (RdB (w1.alloc (.cells #[.slice none 0 0, .slice none 0 0, .slice none 0 0] 33)) w.heap.size (.slice none 0 0) (.slice none 0 0) (.slice none 0 0) emptyB):=(emptyO _ _).rd
  clear hal
  have hL200:L.length≤200:=by omega
  have hT:text.size≤10000:=by omega
  clear h1 h2
  have HB0:=Lib.hid B1.out.size
  go_wp2
  rw [← HLN.out]
  clear hLn
  obtain ⟨B,hB⟩:∃ S,S=w1.heap.size:=⟨_,rfl⟩
  rw [← hB] at S2 HB0 ⊢
  clear hB
  go_loopw [5,6] (fun vo vk wr=>∃ (k:Nat) (o:ByteArray) (b:Book) (A0:Option Addr) (c0:Nat) (A1:Option Addr) (c1:Nat) (A2:Option Addr) (c2:Nat),vk = .int .i64 k∧vo = .string o∧k≤L.length∧Hid (o=(playTo (L.take k)).2)∧Hid (b=(playTo (L.take k)).1)∧Hid (SeW w wr B g c L (.slice A0 b.f0.length c0) (.slice A1 b.f1.length c1) (.slice A2 b.f2.length c2))∧Hid (RdB wr w.heap.size (.slice A0 b.f0.length c0) (.slice A1 b.f1.length c1) (.slice A2 b.f2.length c2) b)) (fun _ vk _=>L.length-(intOf vk).toNat)
  case atStart=>exact ⟨0,_,emptyB,none,0,none,0,none,0,rfl,rfl,Nat.zero_le _,rfl,rfl,S2,E2⟩
  case round =>
   clear S2 E2
   obtain ⟨k,o,b,A0,c0,A1,c1,A2,c2,rfl,rfl,hk,HO,HBk,C1,RB⟩:=hrel
   obtain ⟨wq,rfl⟩:∃ wo:World,wo=wr:=⟨_,rfl⟩
   have hz1:(L.take k).length≤200:=by rw [List.length_take];omega
   have hz0:=Nat.le_trans (playTo_size (L.take k)) (Nat.mul_le_mul_right 700001 hz1)
   have ho:o.size≤140000200:=by rw [HO.out];exact hz0
   clear hz1 hz0
   by_cases hlt:k<L.length
   case neg =>
    obtain rfl:k=L.length:=by omega
    have HE:Hid (o=sessionB text):=by show _=_;rw [HO.out,List.take_length,HS.out]
    go_wp2
    go_ret
    exact ⟨ret_str HE.out,C1.out.L⟩
   have j1:(k:Int)<L.length:=by omega
   obtain ⟨s,hs⟩:∃ s,L[k]? = some s:=⟨_,List.getElem?_eq_getElem hlt⟩
   have cs:=strCell C1.out.R k hs
   have hsz:s.size≤10000:=by have:=lines_mem (t:=text) (s:=s) (by rw [← HLL.out];exact List.mem_of_getElem? hs);omega
   have HSt:=Lib.hid (play_step hs)
   have hok:=playTo_ok (L.take k)
   rw [← HBk.out] at hok
   have HOK:=Lib.hid hok
   obtain ⟨ws,hws⟩:∃ x,x=cutB 32 s:=⟨_,rfl⟩
   have hl1:1≤ws.length:=by rw [hws];exact (cutB_len 32 s).1
   have hp0:0<ws.length:=by omega
   have hwl:ws.length≤1000000:=by rw [hws];have:=(cutB_len 32 s).2;omega
   have HSZ:Hid (∀ s∈ws,s.size≤1000000):=by rw [hws];exact fun t ht=>Nat.le_trans (cutB_mem ht) (by omega)
   have hz:=lineR_size hok ws
   obtain ⟨a,ha⟩:∃ a,a=(lineR b ws).2:=⟨_,rfl⟩
   obtain ⟨bn,hbn⟩:∃ x,x=(lineR b ws).1:=⟨_,rfl⟩
   rw [← ha] at hz
   have HA:=Lib.hid ha
   have HBN:=Lib.hid hbn
   have HWS:=Lib.hid hws
   have q1:¬ (9223372036854775807:Nat)<o.size+a.size:=by omega
   have q2:¬ (9223372036854775807:Nat)<o.size+a.size+1:=by omega
   have hV0:w.heap.size≤wq.heap.size:=C1.out.L.size
   have KS:Hid (∀ V,Below wq.heap.size wq V→V.cell? ⟨B,0,none⟩=some (.slice A0 b.f0.length c0)∧V.cell? ⟨B,1,none⟩=some (.slice A1 b.f1.length c1)∧V.cell? ⟨B,2,none⟩=some (.slice A2 b.f2.length c2)∧V.cell? ⟨g,k,none⟩=some (.string s)):=fun V h=>⟨pw_cell_below h ((blk_cell C1.out.P 0).trans rfl),pw_cell_below h ((blk_cell C1.out.P 1).trans rfl),pw_cell_below h ((blk_cell C1.out.P 2).trans rfl),pw_cell_below h cs⟩
   clear hs hok ha hbn hws hl1 hz cs
   go_upto_region 11 with (fail)
   go_cut [7,8] (fun s6 s7 wx=>∃ (T:Nat) (B0:Option Addr) (d0:Nat) (B1:Option Addr) (d1:Nat) (B2:Option Addr) (d2:Nat),s6 = .pointer (some ⟨T,0,none⟩)∧s7 = .string a∧Hid (SeW w wx B g c L (.slice A0 b.f0.length c0) (.slice A1 b.f1.length c1) (.slice A2 b.f2.length c2))∧Hid (RdB wx w.heap.size (.slice B0 bn.f0.length d0) (.slice B1 bn.f1.length d1) (.slice B2 bn.f2.length d2) bn)∧Hid (wx.heap[T]? = some (.cells #[.slice B0 bn.f0.length d0, .slice B1 bn.f1.length d1, .slice B2 bn.f2.length d2] 33 (0,0))))
   case first =>
    have b0:Hid (Below wq.heap.size wq wq.drew):=pw_below_drewN (Below.refl _ _) 1
    refine start_ (n:=13) (S:=fun w'=>w'.cell? ⟨B,0,none⟩=some (.slice A0 b.f0.length c0)∧w'.cell? ⟨B,1,none⟩=some (.slice A1 b.f1.length c1)∧w'.cell? ⟨B,2,none⟩=some (.slice A2 b.f2.length c2)∧w'.cell? ⟨g,k,none⟩=some (.string s)) (ds:=[11]) #[false,false,false,false,false,false,false,false,false,false,false,false,false] (by kernel_rfl) rfl rfl (KS.out _ b0.out) (fun hHeld => ?_)
    refine pureA 1 (h := ?_)
    refine pureA 2 (h := ?_)
    refine pureA 3 (h := ?_)
    refine takeA 0 hHeld (h := ?_)
    refine takeA 4 hHeld (h := ?_)
    generalize wq.drew=V0 at hHeld b0 ⊢
    refine twoA 5 10 (h1:=fun K hK => ?_) (h2:=fun K hK => ?_)
    ·go_simp
     have hcut:=l6Cut_any s 32 32 rfl V0 (by omega)
     rw [← HWS.out] at hcut
     refine hcut.mono ?_
     rintro e V1 ⟨v,rfl,hv,hb⟩
     obtain ⟨gw,cw,rfl,_,_,_,_⟩:=Kd.R_form hv hp0
     go_simp
     have bb1:=Lib.hid (below_next b0.out b0.out.size hb)
     have hW1:=Lib.hid (Kd.R_lower hv (show w.heap.size≤V0.heap.size from Nat.le_trans hV0 b0.out.size))
     clear hv hb hcut
     refine hK.out _ _ (KS.out _ bb1.out) (fun hHeld => ?_)
     clear hK K
     refine twoA 6 10 (h1:=fun K hK => ?_) (h2:=fun K hK => ?_)
     ·go_simp
      have hla:=l6Line_any A0 c0 A1 c1 A2 c2 b V1 (RB.out.below bb1.out) (Nat.le_trans hV0 bb1.out.size) HOK.out ws hW1.out hp0 HSZ.out hwl
      unfold LineOk at hla
      rw [← HA.out,← HBN.out] at hla
      refine hla.mono ?_
      rintro e V3 ⟨u0,u1,u2,rfl,hr,hb⟩
      go_simp
      have bb3:=Lib.hid (below_next bb1.out bb1.out.size hb)
      obtain ⟨B0,d0,B1,d1,B2,d2,rfl,rfl,rfl⟩:=hr.form
      have hN3:=Lib.hid hr
      clear hr hb hla
      refine hK.out _ _ (KS.out _ bb3.out) (fun hHeld => ?_)
      clear hK K
      refine pureA 7 (h := ?_)
      refine pureA 8 (h := ?_)
      refine pureA 9 (h := ?_)
      refine oneA 10 (h:=fun K hK => ?_)
      go_simp
      refine hK.out _ _ (KS.out _ (below_alloc bb3.out _)) (fun hHeld => ?_)
      clear hK K
      have bb5:Hid (Below wq.heap.size wq (V3.alloc (.cells #[.slice none 0 0, .slice none 0 0, .slice none 0 0] 33))):=below_alloc bb3.out _
      have ha:Below V3.heap.size V3 (V3.alloc (.cells #[.slice none 0 0, .slice none 0 0, .slice none 0 0] 33)):=below_alloc (Below.refl _ _) _
      have hN5:=Lib.hid (RdB.below hN3.out ha)
      have y5:Hid ((V3.alloc (.cells #[.slice none 0 0, .slice none 0 0, .slice none 0 0] 33)).heap[V3.heap.size]? = some (.cells #[.slice none 0 0, .slice none 0 0, .slice none 0 0] 33 (0,0))):=blk_new _ _
      have hg5:Hid (wq.heap.size≤V3.heap.size):=bb3.out.size
      clear ha
      obtain ⟨V5,eV5⟩:∃ V,V=V3.alloc (.cells #[.slice none 0 0, .slice none 0 0, .slice none 0 0] 33):=⟨_,rfl⟩
      rw [← eV5] at bb5 hHeld y5 hN5 ⊢
      clear eV5
      have pb0:=blk_frozen y5.out 0
      have cb0:=(blk_cell y5.out 0).trans rfl
      have pb1:=blk_frozen y5.out 1
      have cb1:=(blk_cell y5.out 1).trans rfl
      have pb2:=blk_frozen y5.out 2
      have cb2:=(blk_cell y5.out 2).trans rfl
      refine lastA 11 (h:=fun K hK => ?_)
      go_simp
      refine hK.out _ _ ?_
      clear hK K
      refine pureA 12 (h := ?_)
      refine doneA (h := ?_)
      go_wp2_with (fail)
      go_meet
      have e1:=blk_set y5.out 0 (.slice B0 bn.f0.length d0)
      have e2:=blk_set e1 1 (.slice B1 bn.f1.length d1)
      have e3:=blk_set e2 2 (.slice B2 bn.f2.length d2)
      exact ⟨V3.heap.size,B0,d0,B1,d1,B2,d2,rfl,rfl,SeW.below C1.out (((bb5.out.setCell (p:=⟨V3.heap.size,0,none⟩) hg5.out _).setCell (p:=⟨V3.heap.size,1,none⟩) hg5.out _).setCell (p:=⟨V3.heap.size,2,none⟩) hg5.out _),RdB.cell3 hN5.out y5.out _ _ _,e3⟩
     ·go_simp
      refine hK.out _ _ (KS.out _ (below_alloc bb1.out _)) (fun hHeld => ?_)
      clear hK K
      have bb4:Hid (Below wq.heap.size wq (V1.alloc (.cells #[.slice none 0 0, .slice none 0 0, .slice none 0 0] 33))):=below_alloc bb1.out _
      have ha:Below V1.heap.size V1 (V1.alloc (.cells #[.slice none 0 0, .slice none 0 0, .slice none 0 0] 33)):=below_alloc (Below.refl _ _) _
      have hW4:=Lib.hid (Kd.R_below hW1.out ha)
      have y4:Hid ((V1.alloc (.cells #[.slice none 0 0, .slice none 0 0, .slice none 0 0] 33)).heap[V1.heap.size]? = some (.cells #[.slice none 0 0, .slice none 0 0, .slice none 0 0] 33 (0,0))):=blk_new _ _
      have hg4:Hid (wq.heap.size≤V1.heap.size):=bb1.out.size
      clear ha
      obtain ⟨V4,eV4⟩:∃ V,V=V1.alloc (.cells #[.slice none 0 0, .slice none 0 0, .slice none 0 0] 33):=⟨_,rfl⟩
      rw [← eV4] at bb4 hHeld y4 hW4 ⊢
      clear eV4
      refine oneA 6 (h:=fun K hK => ?_)
      go_simp
      have hla:=l6Line_any A0 c0 A1 c1 A2 c2 b V4 (RB.out.below bb4.out) (Nat.le_trans hV0 bb4.out.size) HOK.out ws hW4.out hp0 HSZ.out hwl
      unfold LineOk at hla
      rw [← HA.out,← HBN.out] at hla
      refine hla.mono ?_
      rintro e V6 ⟨u0,u1,u2,rfl,hr,hb⟩
      go_simp
      have bb6:=Lib.hid (below_next bb4.out bb4.out.size hb)
      have y6:=Lib.hid (blk_below y4.out hb)
      obtain ⟨B0,d0,B1,d1,B2,d2,rfl,rfl,rfl⟩:=hr.form
      have hN6:=Lib.hid hr
      clear hr hb hla
      refine hK.out _ _ (KS.out _ bb6.out) (fun hHeld => ?_)
      clear hK K
      refine pureA 7 (h := ?_)
      refine pureA 8 (h := ?_)
      refine pureA 9 (h := ?_)
      have pb0:=blk_frozen y6.out 0
      have cb0:=(blk_cell y6.out 0).trans rfl
      have pb1:=blk_frozen y6.out 1
      have cb1:=(blk_cell y6.out 1).trans rfl
      have pb2:=blk_frozen y6.out 2
      have cb2:=(blk_cell y6.out 2).trans rfl
      refine lastA 11 (h:=fun K hK => ?_)
      go_simp
      refine hK.out _ _ ?_
      clear hK K
      refine pureA 12 (h := ?_)
      refine doneA (h := ?_)
      go_wp2_with (fail)
      go_meet
      have e1:=blk_set y6.out 0 (.slice B0 bn.f0.length d0)
      have e2:=blk_set e1 1 (.slice B1 bn.f1.length d1)
      have e3:=blk_set e2 2 (.slice B2 bn.f2.length d2)
      exact ⟨V1.heap.size,B0,d0,B1,d1,B2,d2,rfl,rfl,SeW.below C1.out (((bb6.out.setCell (p:=⟨V1.heap.size,0,none⟩) hg4.out _).setCell (p:=⟨V1.heap.size,1,none⟩) hg4.out _).setCell (p:=⟨V1.heap.size,2,none⟩) hg4.out _),RdB.cell3 hN6.out y6.out _ _ _,e3⟩
    ·go_simp
     refine hK.out _ _ (KS.out _ (below_alloc b0.out _)) (fun hHeld => ?_)
     clear hK K
     have bb2:Hid (Below wq.heap.size wq (V0.alloc (.cells #[.slice none 0 0, .slice none 0 0, .slice none 0 0] 33))):=below_alloc b0.out _
     have ha:Below V0.heap.size V0 (V0.alloc (.cells #[.slice none 0 0, .slice none 0 0, .slice none 0 0] 33)):=below_alloc (Below.refl _ _) _
     have y2:Hid ((V0.alloc (.cells #[.slice none 0 0, .slice none 0 0, .slice none 0 0] 33)).heap[V0.heap.size]? = some (.cells #[.slice none 0 0, .slice none 0 0, .slice none 0 0] 33 (0,0))):=blk_new _ _
     have hg2:Hid (wq.heap.size≤V0.heap.size):=b0.out.size
     clear ha
     obtain ⟨V2,eV2⟩:∃ V,V=V0.alloc (.cells #[.slice none 0 0, .slice none 0 0, .slice none 0 0] 33):=⟨_,rfl⟩
     rw [← eV2] at bb2 hHeld y2 ⊢
     clear eV2
     refine oneA 5 (h:=fun K hK => ?_)
     go_simp
     have hcut:=l6Cut_any s 32 32 rfl V2 (by omega)
     rw [← HWS.out] at hcut
     refine hcut.mono ?_
     rintro e V7 ⟨v,rfl,hv,hb⟩
     obtain ⟨gw,cw,rfl,_,_,_,_⟩:=Kd.R_form hv hp0
     go_simp
     have bb7:=Lib.hid (below_next bb2.out bb2.out.size hb)
     have y7:=Lib.hid (blk_below y2.out hb)
     have hW7:=Lib.hid (Kd.R_lower hv (show w.heap.size≤V2.heap.size from Nat.le_trans hV0 bb2.out.size))
     clear hv hb hcut
     refine hK.out _ _ (KS.out _ bb7.out) (fun hHeld => ?_)
     clear hK K
     refine oneA 6 (h:=fun K hK => ?_)
     go_simp
     have hla:=l6Line_any A0 c0 A1 c1 A2 c2 b V7 (RB.out.below bb7.out) (Nat.le_trans hV0 bb7.out.size) HOK.out ws hW7.out hp0 HSZ.out hwl
     unfold LineOk at hla
     rw [← HA.out,← HBN.out] at hla
     refine hla.mono ?_
     rintro e V8 ⟨u0,u1,u2,rfl,hr,hb⟩
     go_simp
     have bb8:=Lib.hid (below_next bb7.out bb7.out.size hb)
     have y8:=Lib.hid (blk_below y7.out hb)
     obtain ⟨B0,d0,B1,d1,B2,d2,rfl,rfl,rfl⟩:=hr.form
     have hN8:=Lib.hid hr
     clear hr hb hla
     refine hK.out _ _ (KS.out _ bb8.out) (fun hHeld => ?_)
     clear hK K
     refine pureA 7 (h := ?_)
     refine pureA 8 (h := ?_)
     refine pureA 9 (h := ?_)
     have pb0:=blk_frozen y8.out 0
     have cb0:=(blk_cell y8.out 0).trans rfl
     have pb1:=blk_frozen y8.out 1
     have cb1:=(blk_cell y8.out 1).trans rfl
     have pb2:=blk_frozen y8.out 2
     have cb2:=(blk_cell y8.out 2).trans rfl
     refine lastA 11 (h:=fun K hK => ?_)
     go_simp
     refine hK.out _ _ ?_
     clear hK K
     refine pureA 12 (h := ?_)
     refine doneA (h := ?_)
     go_wp2_with (fail)
     go_meet
     have e1:=blk_set y8.out 0 (.slice B0 bn.f0.length d0)
     have e2:=blk_set e1 1 (.slice B1 bn.f1.length d1)
     have e3:=blk_set e2 2 (.slice B2 bn.f2.length d2)
     exact ⟨V0.heap.size,B0,d0,B1,d1,B2,d2,rfl,rfl,SeW.below C1.out (((bb8.out.setCell (p:=⟨V0.heap.size,0,none⟩) hg2.out _).setCell (p:=⟨V0.heap.size,1,none⟩) hg2.out _).setCell (p:=⟨V0.heap.size,2,none⟩) hg2.out _),RdB.cell3 hN8.out y8.out _ _ _,e3⟩
   case rest =>
   obtain ⟨T,B0,d0,B1,d1,B2,d2,rfl,rfl,C3,R3,X3⟩:=hcut
   obtain ⟨w3,hw3⟩:∃ V,V=wc:=⟨_,rfl⟩
   subst hw3
   clear KS C1 RB
   have cx0:=(blk_cell X3.out 0).trans rfl
   have cz0:=(blk_cell C3.out.P 0).trans rfl
   have fz0:=blk_frozen C3.out.P 0
   have cx1:=(blk_cell X3.out 1).trans rfl
   have cz1:=(blk_cell C3.out.P 1).trans rfl
   have fz1:=blk_frozen C3.out.P 1
   have cx2:=(blk_cell X3.out 2).trans rfl
   have cz2:=(blk_cell C3.out.P 2).trans rfl
   have fz2:=blk_frozen C3.out.P 2
   have C4:=Lib.hid (C3.out.put HB0.out (.slice B0 bn.f0.length d0) (.slice B1 bn.f1.length d1) (.slice B2 bn.f2.length d2))
   have R4:=Lib.hid (R3.out.cell3 C3.out.P (.slice B0 bn.f0.length d0) (.slice B1 bn.f1.length d1) (.slice B2 bn.f2.length d2))
   go_wp2
   go_roundw
   case rel=>exact ⟨k+1,_,bn,B0,d0,B1,d1,B2,d2,by go_num,rfl,hlt,by show _=_;rw [HSt.out,HO.out,HA.out,HBk.out,HWS.out],by show _=_;rw [HSt.out,HBN.out,HBk.out,HWS.out],C4,R4⟩
   case measure=>simp [intOf];omega
 ·have e1:=emp_no hem
  have HL:Hid (linesB text=cutB 10 text):=lines_all (by have:=HLA.out;rw [HN.out] at this;rw [this];exact fun h=>hem (Option.some.inj h))
  clear hem
  obtain ⟨L,hL⟩:∃ L,L=linesB text:=⟨_,rfl⟩
  have HLL:=Lib.hid hL
  have hLn:L.length=n:=by rw [hL,HL.out,← HN.out]
  have HR1:Hid (Kd.R Kd.string 9 w1 w.heap.size (fun _=>True) (.slice (some ⟨g,0,none⟩) L.length c) L):=by have t:=HP.out;rw [← HL.out,← hL,← hLn] at t;exact t
  have HLN:=Lib.hid hLn
  clear hL
  have hLb:L.length≤text.size+1:=by rw [HLL.out];exact lines_len text
  by_cases h1:10000<text.size
  ·have f1:decide ((10000:Int)<(text.size:Int))=true:=decide_eq_true (by omega)
   have f1':decide ((text.size:Int) > 10000)=true:=decide_eq_true (by omega)
   have HS:=Lib.hid (session_long (t:=text) (.inl h1))
   clear h1 hLn
   go_wp2
   go_ret
   exact ⟨ret_str HS.out.symm,B1.out⟩
  have f1:decide ((10000:Int)<(text.size:Int))=false:=decide_eq_false (by omega)
  have f1':decide ((text.size:Int) > 10000)=false:=decide_eq_false (by omega)
  by_cases h2:200<L.length
  ·have f2:decide ((200:Int)<((n:Nat):Int))=true:=decide_eq_true (by omega)
   have f2':decide (((n:Nat):Int) > 200)=true:=decide_eq_true (by omega)
   have HS:=Lib.hid (session_long (t:=text) (.inr (by rw [← HLL.out];exact h2)))
   clear h1 h2 hLn
   go_wp2
   go_ret
   exact ⟨ret_str HS.out.symm,B1.out⟩
  have f2:decide ((200:Int)<((n:Nat):Int))=false:=decide_eq_false (by omega)
  have f2':decide (((n:Nat):Int) > 200)=false:=decide_eq_false (by omega)
  have HS:=Lib.hid (session_short (t:=text) h1 (by rw [← HLL.out];exact h2))
  rw [← HLL.out] at HS
  have hal:Below w1.heap.size w1 (w1.alloc (.cells #[.slice none 0 0, .slice none 0 0, .slice none 0 0] 33)):=below_alloc (Below.refl _ _) _
  have S2:Hid (SeW w (w1.alloc (.cells #[.slice none 0 0, .slice none 0 0, .slice none 0 0] 33)) w1.heap.size g c L (.slice none 0 0) (.slice none 0 0) (.slice none 0 0)):=⟨blk_new w1 _,Kd.R_below HR1.out hal,below_next B1.out B1.out.size hal⟩
  have E2:Hid (RdB (w1.alloc (.cells #[.slice none 0 0, .slice none 0 0, .slice none 0 0] 33)) w.heap.size (.slice none 0 0) (.slice none 0 0) (.slice none 0 0) emptyB):=(emptyO _ _).rd
  clear hal
  have hL200:L.length≤200:=by omega
  have hT:text.size≤10000:=by omega
  clear h1 h2
  have HB0:=Lib.hid B1.out.size
  go_wp2
  rw [← HLN.out]
  clear hLn
  obtain ⟨B,hB⟩:∃ S,S=w1.heap.size:=⟨_,rfl⟩
  rw [← hB] at S2 HB0 ⊢
  clear hB
  go_loopw [5,6] (fun vo vk wr=>∃ (k:Nat) (o:ByteArray) (b:Book) (A0:Option Addr) (c0:Nat) (A1:Option Addr) (c1:Nat) (A2:Option Addr) (c2:Nat),vk = .int .i64 k∧vo = .string o∧k≤L.length∧Hid (o=(playTo (L.take k)).2)∧Hid (b=(playTo (L.take k)).1)∧Hid (SeW w wr B g c L (.slice A0 b.f0.length c0) (.slice A1 b.f1.length c1) (.slice A2 b.f2.length c2))∧Hid (RdB wr w.heap.size (.slice A0 b.f0.length c0) (.slice A1 b.f1.length c1) (.slice A2 b.f2.length c2) b)) (fun _ vk _=>L.length-(intOf vk).toNat)
  case atStart=>exact ⟨0,_,emptyB,none,0,none,0,none,0,rfl,rfl,Nat.zero_le _,rfl,rfl,S2,E2⟩
  case round =>
   clear S2 E2
   obtain ⟨k,o,b,A0,c0,A1,c1,A2,c2,rfl,rfl,hk,HO,HBk,C1,RB⟩:=hrel
   obtain ⟨wq,rfl⟩:∃ wo:World,wo=wr:=⟨_,rfl⟩
   have hz1:(L.take k).length≤200:=by rw [List.length_take];omega
   have hz0:=Nat.le_trans (playTo_size (L.take k)) (Nat.mul_le_mul_right 700001 hz1)
   have ho:o.size≤140000200:=by rw [HO.out];exact hz0
   clear hz1 hz0
   by_cases hlt:k<L.length
   case neg =>
    obtain rfl:k=L.length:=by omega
    have HE:Hid (o=sessionB text):=by show _=_;rw [HO.out,List.take_length,HS.out]
    go_wp2
    go_ret
    exact ⟨ret_str HE.out,C1.out.L⟩
   have j1:(k:Int)<L.length:=by omega
   obtain ⟨s,hs⟩:∃ s,L[k]? = some s:=⟨_,List.getElem?_eq_getElem hlt⟩
   have cs:=strCell C1.out.R k hs
   have hsz:s.size≤10000:=by have:=lines_mem (t:=text) (s:=s) (by rw [← HLL.out];exact List.mem_of_getElem? hs);omega
   have HSt:=Lib.hid (play_step hs)
   have hok:=playTo_ok (L.take k)
   rw [← HBk.out] at hok
   have HOK:=Lib.hid hok
   obtain ⟨ws,hws⟩:∃ x,x=cutB 32 s:=⟨_,rfl⟩
   have hl1:1≤ws.length:=by rw [hws];exact (cutB_len 32 s).1
   have hp0:0<ws.length:=by omega
   have hwl:ws.length≤1000000:=by rw [hws];have:=(cutB_len 32 s).2;omega
   have HSZ:Hid (∀ s∈ws,s.size≤1000000):=by rw [hws];exact fun t ht=>Nat.le_trans (cutB_mem ht) (by omega)
   have hz:=lineR_size hok ws
   obtain ⟨a,ha⟩:∃ a,a=(lineR b ws).2:=⟨_,rfl⟩
   obtain ⟨bn,hbn⟩:∃ x,x=(lineR b ws).1:=⟨_,rfl⟩
   rw [← ha] at hz
   have HA:=Lib.hid ha
   have HBN:=Lib.hid hbn
   have HWS:=Lib.hid hws
   have q1:¬ (9223372036854775807:Nat)<o.size+a.size:=by omega
   have q2:¬ (9223372036854775807:Nat)<o.size+a.size+1:=by omega
   have hV0:w.heap.size≤wq.heap.size:=C1.out.L.size
   have KS:Hid (∀ V,Below wq.heap.size wq V→V.cell? ⟨B,0,none⟩=some (.slice A0 b.f0.length c0)∧V.cell? ⟨B,1,none⟩=some (.slice A1 b.f1.length c1)∧V.cell? ⟨B,2,none⟩=some (.slice A2 b.f2.length c2)∧V.cell? ⟨g,k,none⟩=some (.string s)):=fun V h=>⟨pw_cell_below h ((blk_cell C1.out.P 0).trans rfl),pw_cell_below h ((blk_cell C1.out.P 1).trans rfl),pw_cell_below h ((blk_cell C1.out.P 2).trans rfl),pw_cell_below h cs⟩
   clear hs hok ha hbn hws hl1 hz cs
   go_upto_region 11 with (fail)
   go_cut [7,8] (fun s6 s7 wx=>∃ (T:Nat) (B0:Option Addr) (d0:Nat) (B1:Option Addr) (d1:Nat) (B2:Option Addr) (d2:Nat),s6 = .pointer (some ⟨T,0,none⟩)∧s7 = .string a∧Hid (SeW w wx B g c L (.slice A0 b.f0.length c0) (.slice A1 b.f1.length c1) (.slice A2 b.f2.length c2))∧Hid (RdB wx w.heap.size (.slice B0 bn.f0.length d0) (.slice B1 bn.f1.length d1) (.slice B2 bn.f2.length d2) bn)∧Hid (wx.heap[T]? = some (.cells #[.slice B0 bn.f0.length d0, .slice B1 bn.f1.length d1, .slice B2 bn.f2.length d2] 33 (0,0))))
   case first =>
    have b0:Hid (Below wq.heap.size wq wq.drew):=pw_below_drewN (Below.refl _ _) 1
    refine start_ (n:=13) (S:=fun w'=>w'.cell? ⟨B,0,none⟩=some (.slice A0 b.f0.length c0)∧w'.cell? ⟨B,1,none⟩=some (.slice A1 b.f1.length c1)∧w'.cell? ⟨B,2,none⟩=some (.slice A2 b.f2.length c2)∧w'.cell? ⟨g,k,none⟩=some (.string s)) (ds:=[11]) #[false,false,false,false,false,false,false,false,false,false,false,false,false] (by kernel_rfl) rfl rfl (KS.out _ b0.out) (fun hHeld => ?_)
    refine pureA 1 (h := ?_)
    refine pureA 2 (h := ?_)
    refine pureA 3 (h := ?_)
    refine takeA 0 hHeld (h := ?_)
    refine takeA 4 hHeld (h := ?_)
    generalize wq.drew=V0 at hHeld b0 ⊢
    refine twoA 5 10 (h1:=fun K hK => ?_) (h2:=fun K hK => ?_)
    ·go_simp
     have hcut:=l6Cut_any s 32 32 rfl V0 (by omega)
     rw [← HWS.out] at hcut
     refine hcut.mono ?_
     rintro e V1 ⟨v,rfl,hv,hb⟩
     obtain ⟨gw,cw,rfl,_,_,_,_⟩:=Kd.R_form hv hp0
     go_simp
     have bb1:=Lib.hid (below_next b0.out b0.out.size hb)
     have hW1:=Lib.hid (Kd.R_lower hv (show w.heap.size≤V0.heap.size from Nat.le_trans hV0 b0.out.size))
     clear hv hb hcut
     refine hK.out _ _ (KS.out _ bb1.out) (fun hHeld => ?_)
     clear hK K
     refine twoA 6 10 (h1:=fun K hK => ?_) (h2:=fun K hK => ?_)
     ·go_simp
      have hla:=l6Line_any A0 c0 A1 c1 A2 c2 b V1 (RB.out.below bb1.out) (Nat.le_trans hV0 bb1.out.size) HOK.out ws hW1.out hp0 HSZ.out hwl
      unfold LineOk at hla
      rw [← HA.out,← HBN.out] at hla
      refine hla.mono ?_
      rintro e V3 ⟨u0,u1,u2,rfl,hr,hb⟩
      go_simp
      have bb3:=Lib.hid (below_next bb1.out bb1.out.size hb)
      obtain ⟨B0,d0,B1,d1,B2,d2,rfl,rfl,rfl⟩:=hr.form
      have hN3:=Lib.hid hr
      clear hr hb hla
      refine hK.out _ _ (KS.out _ bb3.out) (fun hHeld => ?_)
      clear hK K
      refine pureA 7 (h := ?_)
      refine pureA 8 (h := ?_)
      refine pureA 9 (h := ?_)
      refine oneA 10 (h:=fun K hK => ?_)
      go_simp
      refine hK.out _ _ (KS.out _ (below_alloc bb3.out _)) (fun hHeld => ?_)
      clear hK K
      have bb5:Hid (Below wq.heap.size wq (V3.alloc (.cells #[.slice none 0 0, .slice none 0 0, .slice none 0 0] 33))):=below_alloc bb3.out _
      have ha:Below V3.heap.size V3 (V3.alloc (.cells #[.slice none 0 0, .slice none 0 0, .slice none 0 0] 33)):=below_alloc (Below.refl _ _) _
      have hN5:=Lib.hid (RdB.below hN3.out ha)
      have y5:Hid ((V3.alloc (.cells #[.slice none 0 0, .slice none 0 0, .slice none 0 0] 33)).heap[V3.heap.size]? = some (.cells #[.slice none 0 0, .slice none 0 0, .slice none 0 0] 33 (0,0))):=blk_new _ _
      have hg5:Hid (wq.heap.size≤V3.heap.size):=bb3.out.size
      clear ha
      obtain ⟨V5,eV5⟩:∃ V,V=V3.alloc (.cells #[.slice none 0 0, .slice none 0 0, .slice none 0 0] 33):=⟨_,rfl⟩
      rw [← eV5] at bb5 hHeld y5 hN5 ⊢
      clear eV5
      have pb0:=blk_frozen y5.out 0
      have cb0:=(blk_cell y5.out 0).trans rfl
      have pb1:=blk_frozen y5.out 1
      have cb1:=(blk_cell y5.out 1).trans rfl
      have pb2:=blk_frozen y5.out 2
      have cb2:=(blk_cell y5.out 2).trans rfl
      refine lastA 11 (h:=fun K hK => ?_)
      go_simp
      refine hK.out _ _ ?_
      clear hK K
      refine pureA 12 (h := ?_)
      refine doneA (h := ?_)
      go_wp2_with (fail)
      go_meet
      have e1:=blk_set y5.out 0 (.slice B0 bn.f0.length d0)
      have e2:=blk_set e1 1 (.slice B1 bn.f1.length d1)
      have e3:=blk_set e2 2 (.slice B2 bn.f2.length d2)
      exact ⟨V3.heap.size,B0,d0,B1,d1,B2,d2,rfl,rfl,SeW.below C1.out (((bb5.out.setCell (p:=⟨V3.heap.size,0,none⟩) hg5.out _).setCell (p:=⟨V3.heap.size,1,none⟩) hg5.out _).setCell (p:=⟨V3.heap.size,2,none⟩) hg5.out _),RdB.cell3 hN5.out y5.out _ _ _,e3⟩
     ·go_simp
      refine hK.out _ _ (KS.out _ (below_alloc bb1.out _)) (fun hHeld => ?_)
      clear hK K
      have bb4:Hid (Below wq.heap.size wq (V1.alloc (.cells #[.slice none 0 0, .slice none 0 0, .slice none 0 0] 33))):=below_alloc bb1.out _
      have ha:Below V1.heap.size V1 (V1.alloc (.cells #[.slice none 0 0, .slice none 0 0, .slice none 0 0] 33)):=below_alloc (Below.refl _ _) _
      have hW4:=Lib.hid (Kd.R_below hW1.out ha)
      have y4:Hid ((V1.alloc (.cells #[.slice none 0 0, .slice none 0 0, .slice none 0 0] 33)).heap[V1.heap.size]? = some (.cells #[.slice none 0 0, .slice none 0 0, .slice none 0 0] 33 (0,0))):=blk_new _ _
      have hg4:Hid (wq.heap.size≤V1.heap.size):=bb1.out.size
      clear ha
      obtain ⟨V4,eV4⟩:∃ V,V=V1.alloc (.cells #[.slice none 0 0, .slice none 0 0, .slice none 0 0] 33):=⟨_,rfl⟩
      rw [← eV4] at bb4 hHeld y4 hW4 ⊢
      clear eV4
      refine oneA 6 (h:=fun K hK => ?_)
      go_simp
      have hla:=l6Line_any A0 c0 A1 c1 A2 c2 b V4 (RB.out.below bb4.out) (Nat.le_trans hV0 bb4.out.size) HOK.out ws hW4.out hp0 HSZ.out hwl
      unfold LineOk at hla
      rw [← HA.out,← HBN.out] at hla
      refine hla.mono ?_
      rintro e V6 ⟨u0,u1,u2,rfl,hr,hb⟩
      go_simp
      have bb6:=Lib.hid (below_next bb4.out bb4.out.size hb)
      have y6:=Lib.hid (blk_below y4.out hb)
      obtain ⟨B0,d0,B1,d1,B2,d2,rfl,rfl,rfl⟩:=hr.form
      have hN6:=Lib.hid hr
      clear hr hb hla
      refine hK.out _ _ (KS.out _ bb6.out) (fun hHeld => ?_)
      clear hK K
      refine pureA 7 (h := ?_)
      refine pureA 8 (h := ?_)
      refine pureA 9 (h := ?_)
      have pb0:=blk_frozen y6.out 0
      have cb0:=(blk_cell y6.out 0).trans rfl
      have pb1:=blk_frozen y6.out 1
      have cb1:=(blk_cell y6.out 1).trans rfl
      have pb2:=blk_frozen y6.out 2
      have cb2:=(blk_cell y6.out 2).trans rfl
      refine lastA 11 (h:=fun K hK => ?_)
      go_simp
      refine hK.out _ _ ?_
      clear hK K
      refine pureA 12 (h := ?_)
      refine doneA (h := ?_)
      go_wp2_with (fail)
      go_meet
      have e1:=blk_set y6.out 0 (.slice B0 bn.f0.length d0)
      have e2:=blk_set e1 1 (.slice B1 bn.f1.length d1)
      have e3:=blk_set e2 2 (.slice B2 bn.f2.length d2)
      exact ⟨V1.heap.size,B0,d0,B1,d1,B2,d2,rfl,rfl,SeW.below C1.out (((bb6.out.setCell (p:=⟨V1.heap.size,0,none⟩) hg4.out _).setCell (p:=⟨V1.heap.size,1,none⟩) hg4.out _).setCell (p:=⟨V1.heap.size,2,none⟩) hg4.out _),RdB.cell3 hN6.out y6.out _ _ _,e3⟩
    ·go_simp
     refine hK.out _ _ (KS.out _ (below_alloc b0.out _)) (fun hHeld => ?_)
     clear hK K
     have bb2:Hid (Below wq.heap.size wq (V0.alloc (.cells #[.slice none 0 0, .slice none 0 0, .slice none 0 0] 33))):=below_alloc b0.out _
     have ha:Below V0.heap.size V0 (V0.alloc (.cells #[.slice none 0 0, .slice none 0 0, .slice none 0 0] 33)):=below_alloc (Below.refl _ _) _
     have y2:Hid ((V0.alloc (.cells #[.slice none 0 0, .slice none 0 0, .slice none 0 0] 33)).heap[V0.heap.size]? = some (.cells #[.slice none 0 0, .slice none 0 0, .slice none 0 0] 33 (0,0))):=blk_new _ _
     have hg2:Hid (wq.heap.size≤V0.heap.size):=b0.out.size
     clear ha
     obtain ⟨V2,eV2⟩:∃ V,V=V0.alloc (.cells #[.slice none 0 0, .slice none 0 0, .slice none 0 0] 33):=⟨_,rfl⟩
     rw [← eV2] at bb2 hHeld y2 ⊢
     clear eV2
     refine oneA 5 (h:=fun K hK => ?_)
     go_simp
     have hcut:=l6Cut_any s 32 32 rfl V2 (by omega)
     rw [← HWS.out] at hcut
     refine hcut.mono ?_
     rintro e V7 ⟨v,rfl,hv,hb⟩
     obtain ⟨gw,cw,rfl,_,_,_,_⟩:=Kd.R_form hv hp0
     go_simp
     have bb7:=Lib.hid (below_next bb2.out bb2.out.size hb)
     have y7:=Lib.hid (blk_below y2.out hb)
     have hW7:=Lib.hid (Kd.R_lower hv (show w.heap.size≤V2.heap.size from Nat.le_trans hV0 bb2.out.size))
     clear hv hb hcut
     refine hK.out _ _ (KS.out _ bb7.out) (fun hHeld => ?_)
     clear hK K
     refine oneA 6 (h:=fun K hK => ?_)
     go_simp
     have hla:=l6Line_any A0 c0 A1 c1 A2 c2 b V7 (RB.out.below bb7.out) (Nat.le_trans hV0 bb7.out.size) HOK.out ws hW7.out hp0 HSZ.out hwl
     unfold LineOk at hla
     rw [← HA.out,← HBN.out] at hla
     refine hla.mono ?_
     rintro e V8 ⟨u0,u1,u2,rfl,hr,hb⟩
     go_simp
     have bb8:=Lib.hid (below_next bb7.out bb7.out.size hb)
     have y8:=Lib.hid (blk_below y7.out hb)
     obtain ⟨B0,d0,B1,d1,B2,d2,rfl,rfl,rfl⟩:=hr.form
     have hN8:=Lib.hid hr
     clear hr hb hla
     refine hK.out _ _ (KS.out _ bb8.out) (fun hHeld => ?_)
     clear hK K
     refine pureA 7 (h := ?_)
     refine pureA 8 (h := ?_)
     refine pureA 9 (h := ?_)
     have pb0:=blk_frozen y8.out 0
     have cb0:=(blk_cell y8.out 0).trans rfl
     have pb1:=blk_frozen y8.out 1
     have cb1:=(blk_cell y8.out 1).trans rfl
     have pb2:=blk_frozen y8.out 2
     have cb2:=(blk_cell y8.out 2).trans rfl
     refine lastA 11 (h:=fun K hK => ?_)
     go_simp
     refine hK.out _ _ ?_
     clear hK K
     refine pureA 12 (h := ?_)
     refine doneA (h := ?_)
     go_wp2_with (fail)
     go_meet
     have e1:=blk_set y8.out 0 (.slice B0 bn.f0.length d0)
     have e2:=blk_set e1 1 (.slice B1 bn.f1.length d1)
     have e3:=blk_set e2 2 (.slice B2 bn.f2.length d2)
     exact ⟨V0.heap.size,B0,d0,B1,d1,B2,d2,rfl,rfl,SeW.below C1.out (((bb8.out.setCell (p:=⟨V0.heap.size,0,none⟩) hg2.out _).setCell (p:=⟨V0.heap.size,1,none⟩) hg2.out _).setCell (p:=⟨V0.heap.size,2,none⟩) hg2.out _),RdB.cell3 hN8.out y8.out _ _ _,e3⟩
   case rest =>
   obtain ⟨T,B0,d0,B1,d1,B2,d2,rfl,rfl,C3,R3,X3⟩:=hcut
   obtain ⟨w3,hw3⟩:∃ V,V=wc:=⟨_,rfl⟩
   subst hw3
   clear KS C1 RB
   have cx0:=(blk_cell X3.out 0).trans rfl
   have cz0:=(blk_cell C3.out.P 0).trans rfl
   have fz0:=blk_frozen C3.out.P 0
   have cx1:=(blk_cell X3.out 1).trans rfl
   have cz1:=(blk_cell C3.out.P 1).trans rfl
   have fz1:=blk_frozen C3.out.P 1
   have cx2:=(blk_cell X3.out 2).trans rfl
   have cz2:=(blk_cell C3.out.P 2).trans rfl
   have fz2:=blk_frozen C3.out.P 2
   have C4:=Lib.hid (C3.out.put HB0.out (.slice B0 bn.f0.length d0) (.slice B1 bn.f1.length d1) (.slice B2 bn.f2.length d2))
   have R4:=Lib.hid (R3.out.cell3 C3.out.P (.slice B0 bn.f0.length d0) (.slice B1 bn.f1.length d1) (.slice B2 bn.f2.length d2))
   go_wp2
   go_roundw
   case rel=>exact ⟨k+1,_,bn,B0,d0,B1,d1,B2,d2,by go_num,rfl,hlt,by show _=_;rw [HSt.out,HO.out,HA.out,HBk.out,HWS.out],by show _=_;rw [HSt.out,HBN.out,HBk.out,HWS.out],C4,R4⟩
   case measure=>simp [intOf];omega
end Go.Proofs.YthcpbojmalgdbaaGreatDoor.Q
