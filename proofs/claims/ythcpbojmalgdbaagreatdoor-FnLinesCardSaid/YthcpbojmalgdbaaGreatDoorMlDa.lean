/- Merged out of this seat's own texts. -/
import Derived.Test.YthcpbojmalgdbaaGreatDoorMlD
import Derived.Deep.RegionHeld3
import Derived.Test.YthcpbojmalgdbaaGreatDoorMlU
import Derived.Test.YthcpbojmalgdbaaGreatDoorMlA
import Derived.BigQuiet
set_option linter.unusedVariables false
set_option linter.unusedSimpArgs false
namespace Go.Proofs.YthcpbojmalgdbaaGreatDoor.Q
open Go.RowKit Go.Proofs.YthcpbojmalgdbaaGreatDoorW.PrintWords Go.Proofs.YthcpbojmalgdbaaGreatDoorW.PrintLast Go.Proofs.YthcpbojmalgdbaaGreatDoorW.PrintMore Go.Proofs.YthcpbojmalgdbaaGreatDoor.Core
theorem ofIn_any {w0 w:World} {g:Nat} {bs:List Int} {p:Int} (h:Rdr w0 w g bs p) (A:Option Addr) (c:Nat) (l:List ByteArray) (hr:Kd.C Kd.string w A l.length l) (hc:l.length≤c) (hne:∀ ad,A=some ad→0<l.length→ad.block≠g) (hp:p≤1000000) (hl:1≤l.length) (hl1:l.length≤1000) :
  Calls Tryz.prog 15 #[.pointer (some ⟨g,0,none⟩), .slice A l.length c] w fun e w'=>∃ s,s∈l∧e = .returned (.string s)∧Rdr w0 w' g bs (p+1)∧KeepBut w w' g none:=by
 obtain ⟨s,hs,hm⟩:=of_ex h.ok p l h.p0 hp hl hl1 1 (Nat.le_refl _)
 refine (spec_l1Rd_of.calls 1 g bs p A c l s (p+1) w0 w h.is h.hb hr hc hne hs).mono ?_
 rintro e w' ⟨he,hi,hb,hk⟩
 exact ⟨s,hm,he,⟨hi,h.ok,by have:=h.p0;omega,hb⟩,hk⟩
def namesL:List ByteArray:=[⟨#[97,49]⟩,⟨#[98,97]⟩,⟨#[99,45,99]⟩,⟨#[100]⟩,⟨#[107,108,49]⟩,⟨#[108,104]⟩,⟨#[113]⟩,⟨#[120,57]⟩]
theorem names_short:∀ s∈namesL,s.size≤3:=by decide
theorem namesIn_any (w:World):Calls Tryz.prog 16 #[] w fun e w'=>∃ (v:Value),e = .returned v∧Kd.R Kd.string 9 w' w.heap.size (fun _=>True) v namesL∧Below w.heap.size w w':=by
 go_enter Tryz.func16,Tryz.ntmps16
 go_wp2
 go_ret
 exact ⟨_,rfl,litS w namesL (by decide),below_alloc (Below.refl _ _) _⟩
theorem sectorIn_any {w0 w:World} {g:Nat} {bs:List Int} {p:Int} (h:Rdr w0 w g bs p) (hp:p≤1000000) :
  Calls Tryz.prog 17 #[.pointer (some ⟨g,0,none⟩)] w fun e w'=>∃ s:ByteArray,s.size≤3∧e = .returned (.string s)∧Rdr w0 w' g bs (p+1)∧KeepBut w w' g none:=by
 have hgl:=h.lt
 have H:=Lib.hid h
 clear h
 go_enter Tryz.func17,Tryz.ntmps17
 go_wp2_with (fail)
 refine (ofIn_any (H.out.alloc _) _ 6 [⟨#[101]⟩,⟨#[101]⟩,⟨#[110,45,49]⟩,⟨#[119]⟩,⟨#[119]⟩,⟨#[122,122]⟩] (litSC w _ (by decide)) (by decide) (fun ad e _=>by injection e with e;rw [← e];show w.heap.size≠g;omega) hp (by decide) (by decide)).mono ?_
 rintro e w1 ⟨s,hs,rfl,h1,k1⟩
 have H1:=Lib.hid h1
 have K1:=Lib.hid ((KeepBut.of_below (below_alloc (Below.refl _ _) _) g none).trans k1 (.inl rfl))
 have hsz:s.size≤3:=(by decide:∀ s∈([⟨#[101]⟩,⟨#[101]⟩,⟨#[110,45,49]⟩,⟨#[119]⟩,⟨#[119]⟩,⟨#[122,122]⟩]:List ByteArray),s.size≤3) s hs
 clear h1 k1 hs
 go_wp2
 go_ret
 exact ⟨s,hsz,rfl,H1.out,K1.out⟩
def visL (l:List Visit):Prop:=∀ v∈l,v.f0.size≤3∧0≤v.f1∧v.f1≤100∧1≤v.f2∧v.f2≤7
theorem visL_app {l:List Visit} {v:Visit} (h:visL l) (hv:v.f0.size≤3∧0≤v.f1∧v.f1≤100∧1≤v.f2∧v.f2≤7):visL (l++[v]):=fun u hu=>by
 rcases List.mem_append.1 hu with h1 | h1
 ·exact h u h1
 ·rw [List.mem_singleton.1 h1];exact hv
theorem tNext {t st a b:Int} {n:Nat} (h0:0≤t) (h1:t+11*((n+1:Nat):Int)≤38) (s0:0≤st) (s1:st<7) (a0:0≤a) (a1:a<2) (b0:0≤b) (b1:b<4):IntKind.i64.wrap (IntKind.i64.wrap (t+(1+st))+IntKind.i64.wrap (a*b))=t+(1+st)+a*b∧0≤t+(1+st)+a*b∧t+(1+st)+a*b+11*(n:Int)≤38:=by
 have h:a=0∨a=1:=by omega
 have e1:IntKind.i64.wrap (t+(1+st))=t+(1+st):=IntWalk.i64_in _ (by omega)
 rcases h with rfl | rfl
 ·rw [e1,Int.zero_mul,show IntKind.i64.wrap 0=0 from IntWalk.i64_in _ (by omega)]
  exact ⟨IntWalk.i64_in _ (by omega),by omega,by omega⟩
 ·rw [e1,Int.one_mul,show IntKind.i64.wrap b=b from IntWalk.i64_in _ (by omega)]
  exact ⟨IntWalk.i64_in _ (by omega),by omega,by omega⟩
set_option maxRecDepth 100000 in
set_option maxHeartbeats 4000000 in
theorem flightIn_any {w0 w:World} {g:Nat} {bs:List Int} {p:Int} (h:Rdr w0 w g bs p) (hp:p≤800000) (name:ByteArray) :
  Calls Tryz.prog 14 #[.pointer (some ⟨g,0,none⟩), .string name] w fun e w'=>∃ (f:Flight) (A:Option Addr) (c:Nat) (p':Int),p≤p'∧p'≤p+40∧1≤f.f3.length∧f.f3.length≤3∧smallL f∧f.f0=name∧0≤f.f1∧0≤f.f2∧visL f.f3 ∧
   e = .returned (.agg #[.string f.f0, .int .i64 f.f1, .int .i64 f.f2, .slice A f.f3.length c])∧Kd.R k52 52 w' w.heap.size (fun _=>True) (.slice A f.f3.length c) f.f3∧Rdr w0 w' g bs p'∧KeepBut w w' g none:=by
 have hgl:=h.lt
 have h0w:=h.hb.size
 go_enter Tryz.func14,Tryz.ntmps14
 go_wp2_with (fail)
 refine (pick_any (h.alloc _) 14 (by omega) (by omega) (by omega)).mono ?_
 rintro e w2 ⟨r1,a1,b1,rfl,h2,k2⟩
 go_wp2_with (fail)
 refine (pick_any h2 24 (by omega) (by omega) (by omega)).mono ?_
 rintro e w3 ⟨r2,a2,b2,rfl,h3,k3⟩
 go_wp2_with (fail)
 refine (pick_any (h3.alloc _) 24 (by omega) (by omega) (by omega)).mono ?_
 rintro e w4 ⟨r3,a3,b3,rfl,h4,k4⟩
 have z2:w.heap.size+1≤w2.heap.size:=by have:=k2.1;simpa using this
 have z3:=k3.1
 have z4:w3.heap.size+1≤w4.heap.size:=by have:=k4.1;simpa using this
 have hR4:Hid (w4.heap[w.heap.size]? = some (.cells #[.string ByteArray.empty, .int .i64 0, .int .i64 0, .slice none 0 0] 45 (0,0))):=keep_blk k4 (blk_alloc (keep_blk k3 (keep_blk k2 (blk_new _ _) (by omega)) (by omega)) _) (by omega)
 have hF4:Hid (w4.heap[w3.heap.size]? = some (.cells #[.string name, .int .i64 r1, .int .i64 r2, .slice none 0 0] 45 (0,0))):=keep_blk k4 (blk_new _ _) (by have:=h3.lt;omega)
 have hK4:Hid (KeepBut w w4 g none):=((((KeepBut.refl w g none).trans (KeepBut.of_below (below_alloc (Below.refl _ _) _) g none) (.inl rfl)).trans k2 (.inl rfl)).trans k3 (.inl rfl)).trans ((KeepBut.of_below (below_alloc (Below.refl _ _) _) g none).trans k4 (.inl rfl)) (.inl rfl)
 clear k2 k3 k4 h2 h
 obtain ⟨gF,hgF⟩:∃ gF,gF=w3.heap.size:=⟨_,rfl⟩
 have h3l:=h3.lt
 rw [← hgF] at hF4 z4 ⊢
 have HGF:=Lib.hid hgF
 have hgn:g≠gF:=by omega
 have hgw:w0.heap.size≤gF:=by omega
 have hwF:w.heap.size<gF:=by omega
 clear h3 hgF
 by_cases hr3:r3=0
 ·have e1:decide (r3=0)=true:=decide_eq_true hr3
  have e2:(r3 == 0)=true:=by simp [hr3]
  go_wp2_with (fail)
  refine (pick_any h4 2 (by omega) (by omega) (by omega)).mono ?_
  rintro e w5 ⟨r4,a4,b4,rfl,h5,k5⟩
  have z5:=k5.1
  have hF5:=Lib.hid (keep_blk k5 hF4.out (Ne.symm hgn))
  have hR5:=Lib.hid (keep_blk k5 hR4.out (by omega))
  have hK5:=Lib.hid (hK4.out.trans k5 (.inl rfl))
  have c1:=blk_cell hF5.out 1
  have f1:=blk_frozen hF5.out 1
  have c2:=blk_cell hF5.out 2
  have f2:=blk_frozen hF5.out 2
  simp only [List.getElem?_toArray,List.getElem?_cons_zero,List.getElem?_cons_succ] at c1 c2
  clear k5 hF4 hR4 hK4 h4
  have jr:IntKind.i64.wrap (10000-r4)=10000-r4:=IntWalk.i64_in _ (by omega)
  go_wp2_with (fail)
  refine (pick_any ((h5.far (q:=⟨gF,1,none⟩) hgn hgw _).far (q:=⟨gF,2,none⟩) hgn hgw _) 5 (by omega) (by omega) (by omega)).mono ?_
  rintro e w6 ⟨t,a6,b6,rfl,h6,k6⟩
  go_wp2_with (fail)
  refine (pick_any h6 3 (by omega) (by omega) (by omega)).mono ?_
  rintro e w7 ⟨n,a7,b7,rfl,h7,k7⟩
  have hF7:Hid (w7.heap[gF]? = some (.cells #[.string name, .int .i64 (10000-r4), .int .i64 60, .slice none 0 0] 45 (0,0))):=keep_blk k7 (keep_blk k6 (blk_set (blk_set hF5.out 1 (.int .i64 (10000-r4))) 2 (.int .i64 60)) (Ne.symm hgn)) (Ne.symm hgn)
  have hR7:=Lib.hid (keep_blk k7 (keep_blk k6 (blk_far (blk_far hR5.out (show w.heap.size≠gF by omega) _) (show w.heap.size≠gF by omega) _) (by omega)) (by omega))
  have hK7:=Lib.hid ((KeepBut.trans (keep_set (keep_set hK5.out (show w.heap.size≤gF by omega) _) (show w.heap.size≤gF by omega) _) k6 (.inl rfl)).trans k7 (.inl rfl))
  obtain ⟨m,rfl⟩:=Int.eq_ofNat_of_zero_le a7
  have jn:IntKind.i64.wrap (1+(m:Int))=((m+1:Nat):Int):=by rw [show 1+(m:Int)=((m+1:Nat):Int) by omega];exact IntWalk.i64_in _ (by omega)
  have h7':=Lib.hid h7
  have hsz7:gF<w7.heap.size:=blk_lt hF7.out
  clear k6 k7 h6 h7
  go_wp2
  go_loopw [6,7] (fun vt vn wr=>∃ (t:Int) (n:Nat) (x:Value) (vs:List Visit) (q:Int),vt = .int .i64 t∧vn = .int .i64 n∧vs.length+n=m+1∧0≤t∧t+11*(n:Int)≤38∧Hid (visL vs)∧p≤q∧q+4*(n:Int)≤p+26∧Hid (Rdr w0 wr g bs q) ∧
    Hid (wr.heap[w.heap.size]? = some (.cells #[.string ByteArray.empty, .int .i64 0, .int .i64 0, .slice none 0 0] 45 (0,0)))∧Hid (wr.heap[gF]? = some (.cells #[.string name, .int .i64 (10000-r4), .int .i64 60,x] 45 (0,0))) ∧
    Hid (Kd.R k52 52 wr w.heap.size (fun k=>k≠g∧k≠w.heap.size∧k≠gF) x vs)∧Hid (KeepBut w wr g none)) (fun _ vn _=>(intOf vn).toNat)
  case atStart=>exact ⟨t,m+1,_,[],_,rfl,rfl,by simp,by omega,by omega,(fun v hv=>by cases hv),by omega,by omega,h7',hR7,hF7,Kd.R_nil _ _ _ _ _,hK7⟩
  case round =>
   clear h7' hR7 hF7 hK7
   obtain ⟨t,n,x,vs,q,rfl,rfl,hvn,ht0,ht1,HVL,hq0,hq1,HD,HR,HF,HO,HK⟩:=hrel
   have hgl:=HD.out.lt
   have hFl:=blk_lt HF.out
   have c3:=blk_cell HF.out 3
   simp only [List.getElem?_toArray,List.getElem?_cons_zero,List.getElem?_cons_succ] at c3
   by_cases hn:0<n
   ·obtain ⟨n',rfl⟩:∃ n',n=n'+1:=⟨n-1,by omega⟩
    have jn2:(0:Int)<((n'+1:Nat):Int):=by omega
    have jn3:IntKind.i64.wrap ((n':Int)+1-1)=(n':Int):=by rw [show (n':Int)+1-1=n' by omega];exact IntWalk.i64_in _ (by omega)
    have jn4:IntKind.i64.wrap (n':Int)=(n':Int):=IntWalk.i64_in _ (by omega)
    have jn5:(0:Int)<(n':Int)+1:=by omega
    obtain ⟨Ax,cx,rfl⟩:=Kd.R_slice HO.out
    go_wp2_with (fail)
    refine (sectorIn_any HD.out (by omega)).mono ?_
    rintro e w8 ⟨sc,hsc,rfl,h8,k8⟩
    go_wp2_with (fail)
    refine (pick_any h8 7 (by omega) (by omega) (by omega)).mono ?_
    rintro e w9 ⟨st,a9,b9,rfl,h9,k9⟩
    have js:IntKind.i64.wrap (1+st)=1+st:=IntWalk.i64_in _ (by omega)
    have z8:=k8.1
    have z9:=k9.1
    have HF9:=keep_blk k9 (keep_blk k8 HF.out (Ne.symm hgn)) (Ne.symm hgn)
    have HR9:=Lib.hid (keep_blk k9 (keep_blk k8 HR.out (by omega)) (by omega))
    have HO9:=Lib.hid (R_keep (R_keep HO.out k8 (fun k hk=>hk.1)) k9 (fun k hk=>hk.1))
    have HK9:=Lib.hid ((HK.out.trans k8 (.inl rfl)).trans k9 (.inl rfl))
    have hoF:some gF≠(Value.slice Ax vs.length cx).ownBlock:=fun e=>(HO.out.1 _ e.symm).2.2 rfl
    have hoR:some w.heap.size≠(Value.slice Ax vs.length cx).ownBlock:=fun e=>(HO.out.1 _ e.symm).2.1 rfl
    have hoG:some g≠(Value.slice Ax vs.length cx).ownBlock:=fun e=>(HO.out.1 _ e.symm).1 rfl
    have hoV:some w9.heap.size≠(Value.slice Ax vs.length cx).ownBlock:=fun e=>by
     obtain ⟨_,_,hlt,_⟩:=(Kd.R_bound HO.out).1 _ e.symm
     omega
    have hoB:Hid (∀ j,(Value.slice Ax vs.length cx).ownBlock=some j→w.heap.size≤j):=fun j hj=>Kd.R_base HO.out j hj
    have HF10:=Lib.hid (blk_alloc HF9 (.cells #[.string sc, .int .i64 t, .int .i64 (1+st)] 52))
    have HV10:=Lib.hid (blk_new w9 (.cells #[.string sc, .int .i64 t, .int .i64 (1+st)] 52))
    have c10:=blk_cell HF10.out 3
    simp only [List.getElem?_toArray,List.getElem?_cons_zero,List.getElem?_cons_succ] at c10
    have h9l:=h9.lt
    have HE10:Hid ((w9.alloc (.cells #[.string sc, .int .i64 t, .int .i64 (1+st)] 52)).heap.size=w9.heap.size+1):=by show _=_;simp
    have H9:=Lib.hid h9
    clear k8 k9 HF HR HO HK HD HF9 h8 h9 c3
    go_wp2_with (first
     | (at_builtin;refine Kd.R_append k52 (w0:=w9.alloc (.cells #[.string sc, .int .i64 t, .int .i64 (1+st)] 52)) w.heap.size rfl _ _ 43 52 (.agg #[.string ByteArray.empty, .int .i64 0, .int .i64 0]) 32 rfl Tryz.underlying43 infoVisit rfl (by decide) (by decide) (.slice Ax vs.length cx) vs (⟨sc,t,1+st⟩:Visit) [.string sc, .int .i64 t, .int .i64 (1+st)] (fun k=>k≠g∧k≠w.heap.size∧k≠gF) (fun _=>False) rfl (by rw [HE10.out];rfl) (k52_mkM _ _ _ (⟨sc,t,1+st⟩:Visit)) (fun _ h=>h.elim) (fun j hj=>by simp at hj;refine ⟨?_,?_,?_⟩ <;> omega) (Kd.R_alloc HO9.out _) (Below.refl _ _) (by simp;omega) (by omega) ?_;intro v1 w11 ho11 hb11 hg11 hat11;obtain ⟨A11,y11,rfl⟩:=Kd.R_slice ho11;obtain ⟨n11,hn11⟩:∃ n,n=(vs++[(⟨sc,t,1+st⟩:Visit)]).length:=⟨_,rfl⟩;rw [← hn11] at ho11 hat11 ⊢;have HN11:=Lib.hid hn11;clear hn11;have HF11:=Lib.hid (blk_grown HF10.out hg11 hoF);have c11:=blk_cell HF11.out 3;have f11:=blk_frozen HF11.out 3;simp only [List.getElem?_toArray,List.getElem?_cons_zero,List.getElem?_cons_succ] at c11;have HV11:=Lib.hid (blk_grown HV10.out hg11 hoV);have HO11:=Lib.hid ho11;have HG11:=Lib.hid hg11;clear ho11 hb11 hg11 hat11)
     | go_in)
    have hX:Hid (Rdr w0 (w11.setCell ⟨gF,3,none⟩ (.slice A11 n11 y11)) g bs (q+1+1)):=((H9.out.alloc _).grown HG11.out hoG (fun j hj=>by have:=hoB.out j hj;omega)).far (q:=⟨gF,3,none⟩) hgn hgw _
    have hVX:=Lib.hid (blk_far HV11.out (p:=⟨gF,3,none⟩) (show w9.heap.size≠gF by omega) (.slice A11 n11 y11))
    have HFX:Hid ((w11.setCell ⟨gF,3,none⟩ (.slice A11 n11 y11)).heap[gF]? = some (.cells #[.string name, .int .i64 (10000-r4), .int .i64 60, .slice A11 n11 y11] 45 (0,0))):=blk_set HF11.out 3 (.slice A11 n11 y11)
    have HRX:=Lib.hid (blk_far (blk_grown (blk_alloc HR9.out (.cells #[.string sc, .int .i64 t, .int .i64 (1+st)] 52)) HG11.out hoR) (p:=⟨gF,3,none⟩) (show w.heap.size≠gF by omega) (.slice A11 n11 y11))
    have HOX:=Lib.hid (Kd.R_far HO11.out (p:=⟨gF,3,none⟩) (fun k hk=>hk.2.2) (.slice A11 n11 y11))
    have HKX:Hid (KeepBut w (w11.setCell ⟨gF,3,none⟩ (.slice A11 n11 y11)) g none):=keep_set ((HK9.out.trans (KeepBut.of_below (below_alloc (Below.refl _ _) _) g none) (.inl rfl)).trans (KeepBut.of_grown HG11.out g) (by
     cases hx:(Value.slice Ax vs.length cx).ownBlock with
     | none=>exact .inl rfl
     | some b=>exact .inr ⟨b,rfl,hoB.out b hx⟩)) (show w.heap.size≤gF by omega) _
    have hXl:=blk_lt HFX.out
    have hVl:=blk_lt hVX.out
    generalize w11.setCell ⟨gF,3,none⟩ (.slice A11 n11 y11)=X at hX hVX HFX HRX HOX HKX hXl hVl ⊢
    clear HF10 HV10 HF11 HV11 HO11 HG11 HO9 HR9 HK9 H9 c10 c11 f11
    have hXd:Hid (Rdr w0 X.drew g bs (q+1+1)):=hX.out.drewN 1
    have hVd:Hid (X.drew.heap[w9.heap.size]? = some (.cells #[.string sc, .int .i64 t, .int .i64 (1+st)] 52 (0,0))):=hVX.out
    have HFd:Hid (X.drew.heap[gF]? = some (.cells #[.string name, .int .i64 (10000-r4), .int .i64 60, .slice A11 n11 y11] 45 (0,0))):=HFX.out
    have HRd:Hid (X.drew.heap[w.heap.size]? = some (.cells #[.string ByteArray.empty, .int .i64 0, .int .i64 0, .slice none 0 0] 45 (0,0))):=HRX.out
    have HOd:=Lib.hid (Kd.R_drewN HOX.out 1)
    have HKd:Hid (KeepBut w X.drew g none):=HKX.out
    have cX:X.cell? ⟨w9.heap.size,2,none⟩=some (.int .i64 (1+st)):=(blk_cell hVX.out 2).trans rfl
    have hne9:w9.heap.size≠g:=by omega
    clear hX hVX HFX HRX HOX HKX
    go_region_held3 (fun W'=>W'.cell? ⟨w9.heap.size,2,none⟩=some (.int .i64 (1+st))) (first | assumption | go_keep) (first
     | (go_at_call 13;refine (pick_any H12.out 4 (by omega) (by omega) (by omega)).mono ?_;rintro e w13 ⟨s6,a13,b13,rfl,h13,k13⟩;have hV13:=Lib.hid (keep_blk k13 hV12.out hne9);have cV13:w13.cell? ⟨w9.heap.size,2,none⟩=some (.int .i64 (1+st)):=(blk_cell hV13.out 2).trans rfl;have H13:=Lib.hid h13;have K13:=Lib.hid k13;clear h13 k13)
     | (go_at_call 13;refine (pick_any hXd.out 2 (by omega) (by omega) (by omega)).mono ?_;rintro e w12 ⟨s5,a12,b12,rfl,h12,k12⟩;have hV12:=Lib.hid (keep_blk k12 hVd.out hne9);have cV12:w12.cell? ⟨w9.heap.size,2,none⟩=some (.int .i64 (1+st)):=(blk_cell hV12.out 2).trans rfl;have H12:=Lib.hid h12;have K12:=Lib.hid k12;clear h12 k12))
    all_goals
     go_wp2
     go_roundw
     case rel =>
      refine ⟨_,n',_,vs++[(⟨sc,t,1+st⟩:Visit)],q+1+1+1+1,rfl,by go_num,by rw [List.length_append,List.length_singleton];omega,?_,?_,visL_app HVL.out ⟨hsc,ht0,by show t≤100;omega,by show 1≤1+st;omega,by show 1+st≤7;omega⟩,by omega,by omega,H13.out,keep_blk K13.out (keep_blk K12.out HRd.out (by omega)) (by omega),keep_blk K13.out (keep_blk K12.out HFd.out (Ne.symm hgn)) (Ne.symm hgn),?_,(HKd.out.trans K12.out (.inl rfl)).trans K13.out (.inl rfl)⟩
      ·have tn:=tNext ht0 ht1 a9 b9 a12 b12 a13 b13
       first | (rw [tn.1];exact tn.2.1) | (show 0≤IntKind.i64.wrap (IntKind.i64.wrap (t+(1+st))+IntKind.i64.wrap (s5*s6));rw [tn.1];exact tn.2.1)
      ·have tn:=tNext ht0 ht1 a9 b9 a12 b12 a13 b13
       first | (rw [tn.1];exact tn.2.2) | (show IntKind.i64.wrap (IntKind.i64.wrap (t+(1+st))+IntKind.i64.wrap (s5*s6))+11*(n':Int)≤38;rw [tn.1];exact tn.2.2)
      exact R_keep (R_keep HOd.out K12.out (fun k hk=>hk.1)) K13.out (fun k hk=>hk.1)
     case measure=>simp [intOf]
   ·obtain rfl:n=0:=by omega
    obtain ⟨Ax,cx,rfl⟩:=Kd.R_slice HO.out
    have d0:=blk_cell HF.out 0
    have d1:=blk_cell HF.out 1
    have d2:=blk_cell HF.out 2
    have g0:=blk_cell HR.out 0
    have g1:=blk_cell HR.out 1
    have g2:=blk_cell HR.out 2
    have g3:=blk_cell HR.out 3
    have q0:=blk_frozen HR.out 0
    have q1:=blk_frozen HR.out 1
    have q2:=blk_frozen HR.out 2
    have q3:=blk_frozen HR.out 3
    simp only [List.getElem?_toArray,List.getElem?_cons_zero,List.getElem?_cons_succ] at d0 d1 d2 g0 g1 g2 g3
    go_wp2
    refine bodyPost_ret (results_cell_row rfl _ _ w.heap.size 45 #[.string name, .int .i64 (10000-r4), .int .i64 60, .slice Ax vs.length cx] (0,0) _ rfl (blk_set (blk_set (blk_set (blk_set HR.out 0 _) 1 _) 2 _) 3 _) Tryz.underlying45 rfl (by kernel_rfl)) rfl ?_
    exact ⟨⟨name,(10000-r4),60,vs⟩,Ax,cx,q,hq0,by omega,(by show 1≤vs.length;omega),(by show vs.length≤3;omega),(by show -1≤(10000-r4)∧(10000-r4)≤10001 ∧ -1≤60∧60≤61;omega),rfl,(by show 0≤(10000-r4);omega),(by show (0:Int)≤60;omega),HVL.out,rfl,
     Kd.R_mono (Kd.R_far (p:=⟨w.heap.size,3,none⟩) (Kd.R_far (p:=⟨w.heap.size,2,none⟩) (Kd.R_far (p:=⟨w.heap.size,1,none⟩) (Kd.R_far (p:=⟨w.heap.size,0,none⟩) HO.out (fun k hk=>hk.2.1) _) (fun k hk=>hk.2.1) _) (fun k hk=>hk.2.1) _) (fun k hk=>hk.2.1) _) (fun _ _=>trivial),
     ((((HD.out.far (q:=⟨w.heap.size,0,none⟩) (show g≠w.heap.size by omega) h0w _).far (q:=⟨w.heap.size,1,none⟩) (show g≠w.heap.size by omega) h0w _).far (q:=⟨w.heap.size,2,none⟩) (show g≠w.heap.size by omega) h0w _).far (q:=⟨w.heap.size,3,none⟩) (show g≠w.heap.size by omega) h0w _),
     keep_set (keep_set (keep_set (keep_set HK.out (q:=⟨w.heap.size,0,none⟩) (Nat.le_refl _) _) (q:=⟨w.heap.size,1,none⟩) (Nat.le_refl _) _) (q:=⟨w.heap.size,2,none⟩) (Nat.le_refl _) _) (q:=⟨w.heap.size,3,none⟩) (Nat.le_refl _) _⟩
 ·have e1:decide (r3=0)=false:=decide_eq_false hr3
  have e2:(r3 == 0)=false:=by simp [hr3]
  go_wp2_with (fail)
  refine (pick_any h4 5 (by omega) (by omega) (by omega)).mono ?_
  rintro e w6 ⟨t,a6,b6,rfl,h6,k6⟩
  go_wp2_with (fail)
  refine (pick_any h6 3 (by omega) (by omega) (by omega)).mono ?_
  rintro e w7 ⟨n,a7,b7,rfl,h7,k7⟩
  have hF7:Hid (w7.heap[gF]? = some (.cells #[.string name, .int .i64 r1, .int .i64 r2, .slice none 0 0] 45 (0,0))):=keep_blk k7 (keep_blk k6 hF4.out (Ne.symm hgn)) (Ne.symm hgn)
  have hR7:=Lib.hid (keep_blk k7 (keep_blk k6 hR4.out (by omega)) (by omega))
  have hK7:=Lib.hid ((KeepBut.trans hK4.out k6 (.inl rfl)).trans k7 (.inl rfl))
  obtain ⟨m,rfl⟩:=Int.eq_ofNat_of_zero_le a7
  have jn:IntKind.i64.wrap (1+(m:Int))=((m+1:Nat):Int):=by rw [show 1+(m:Int)=((m+1:Nat):Int) by omega];exact IntWalk.i64_in _ (by omega)
  have h7':=Lib.hid h7
  have hsz7:gF<w7.heap.size:=blk_lt hF7.out
  clear k6 k7 h6 h7
  go_wp2
  go_loopw [6,7] (fun vt vn wr=>∃ (t:Int) (n:Nat) (x:Value) (vs:List Visit) (q:Int),vt = .int .i64 t∧vn = .int .i64 n∧vs.length+n=m+1∧0≤t∧t+11*(n:Int)≤38∧Hid (visL vs)∧p≤q∧q+4*(n:Int)≤p+26∧Hid (Rdr w0 wr g bs q) ∧
    Hid (wr.heap[w.heap.size]? = some (.cells #[.string ByteArray.empty, .int .i64 0, .int .i64 0, .slice none 0 0] 45 (0,0)))∧Hid (wr.heap[gF]? = some (.cells #[.string name, .int .i64 r1, .int .i64 r2,x] 45 (0,0))) ∧
    Hid (Kd.R k52 52 wr w.heap.size (fun k=>k≠g∧k≠w.heap.size∧k≠gF) x vs)∧Hid (KeepBut w wr g none)) (fun _ vn _=>(intOf vn).toNat)
  case atStart=>exact ⟨t,m+1,_,[],_,rfl,rfl,by simp,by omega,by omega,(fun v hv=>by cases hv),by omega,by omega,h7',hR7,hF7,Kd.R_nil _ _ _ _ _,hK7⟩
  case round =>
   clear h7' hR7 hF7 hK7
   obtain ⟨t,n,x,vs,q,rfl,rfl,hvn,ht0,ht1,HVL,hq0,hq1,HD,HR,HF,HO,HK⟩:=hrel
   have hgl:=HD.out.lt
   have hFl:=blk_lt HF.out
   have c3:=blk_cell HF.out 3
   simp only [List.getElem?_toArray,List.getElem?_cons_zero,List.getElem?_cons_succ] at c3
   by_cases hn:0<n
   ·obtain ⟨n',rfl⟩:∃ n',n=n'+1:=⟨n-1,by omega⟩
    have jn2:(0:Int)<((n'+1:Nat):Int):=by omega
    have jn3:IntKind.i64.wrap ((n':Int)+1-1)=(n':Int):=by rw [show (n':Int)+1-1=n' by omega];exact IntWalk.i64_in _ (by omega)
    have jn4:IntKind.i64.wrap (n':Int)=(n':Int):=IntWalk.i64_in _ (by omega)
    have jn5:(0:Int)<(n':Int)+1:=by omega
    obtain ⟨Ax,cx,rfl⟩:=Kd.R_slice HO.out
    go_wp2_with (fail)
    refine (sectorIn_any HD.out (by omega)).mono ?_
    rintro e w8 ⟨sc,hsc,rfl,h8,k8⟩
    go_wp2_with (fail)
    refine (pick_any h8 7 (by omega) (by omega) (by omega)).mono ?_
    rintro e w9 ⟨st,a9,b9,rfl,h9,k9⟩
    have js:IntKind.i64.wrap (1+st)=1+st:=IntWalk.i64_in _ (by omega)
    have z8:=k8.1
    have z9:=k9.1
    have HF9:=keep_blk k9 (keep_blk k8 HF.out (Ne.symm hgn)) (Ne.symm hgn)
    have HR9:=Lib.hid (keep_blk k9 (keep_blk k8 HR.out (by omega)) (by omega))
    have HO9:=Lib.hid (R_keep (R_keep HO.out k8 (fun k hk=>hk.1)) k9 (fun k hk=>hk.1))
    have HK9:=Lib.hid ((HK.out.trans k8 (.inl rfl)).trans k9 (.inl rfl))
    have hoF:some gF≠(Value.slice Ax vs.length cx).ownBlock:=fun e=>(HO.out.1 _ e.symm).2.2 rfl
    have hoR:some w.heap.size≠(Value.slice Ax vs.length cx).ownBlock:=fun e=>(HO.out.1 _ e.symm).2.1 rfl
    have hoG:some g≠(Value.slice Ax vs.length cx).ownBlock:=fun e=>(HO.out.1 _ e.symm).1 rfl
    have hoV:some w9.heap.size≠(Value.slice Ax vs.length cx).ownBlock:=fun e=>by
     obtain ⟨_,_,hlt,_⟩:=(Kd.R_bound HO.out).1 _ e.symm
     omega
    have hoB:Hid (∀ j,(Value.slice Ax vs.length cx).ownBlock=some j→w.heap.size≤j):=fun j hj=>Kd.R_base HO.out j hj
    have HF10:=Lib.hid (blk_alloc HF9 (.cells #[.string sc, .int .i64 t, .int .i64 (1+st)] 52))
    have HV10:=Lib.hid (blk_new w9 (.cells #[.string sc, .int .i64 t, .int .i64 (1+st)] 52))
    have c10:=blk_cell HF10.out 3
    simp only [List.getElem?_toArray,List.getElem?_cons_zero,List.getElem?_cons_succ] at c10
    have h9l:=h9.lt
    have HE10:Hid ((w9.alloc (.cells #[.string sc, .int .i64 t, .int .i64 (1+st)] 52)).heap.size=w9.heap.size+1):=by show _=_;simp
    have H9:=Lib.hid h9
    clear k8 k9 HF HR HO HK HD HF9 h8 h9 c3
    go_wp2_with (first
     | (at_builtin;refine Kd.R_append k52 (w0:=w9.alloc (.cells #[.string sc, .int .i64 t, .int .i64 (1+st)] 52)) w.heap.size rfl _ _ 43 52 (.agg #[.string ByteArray.empty, .int .i64 0, .int .i64 0]) 32 rfl Tryz.underlying43 infoVisit rfl (by decide) (by decide) (.slice Ax vs.length cx) vs (⟨sc,t,1+st⟩:Visit) [.string sc, .int .i64 t, .int .i64 (1+st)] (fun k=>k≠g∧k≠w.heap.size∧k≠gF) (fun _=>False) rfl (by rw [HE10.out];rfl) (k52_mkM _ _ _ (⟨sc,t,1+st⟩:Visit)) (fun _ h=>h.elim) (fun j hj=>by simp at hj;refine ⟨?_,?_,?_⟩ <;> omega) (Kd.R_alloc HO9.out _) (Below.refl _ _) (by simp;omega) (by omega) ?_;intro v1 w11 ho11 hb11 hg11 hat11;obtain ⟨A11,y11,rfl⟩:=Kd.R_slice ho11;obtain ⟨n11,hn11⟩:∃ n,n=(vs++[(⟨sc,t,1+st⟩:Visit)]).length:=⟨_,rfl⟩;rw [← hn11] at ho11 hat11 ⊢;have HN11:=Lib.hid hn11;clear hn11;have HF11:=Lib.hid (blk_grown HF10.out hg11 hoF);have c11:=blk_cell HF11.out 3;have f11:=blk_frozen HF11.out 3;simp only [List.getElem?_toArray,List.getElem?_cons_zero,List.getElem?_cons_succ] at c11;have HV11:=Lib.hid (blk_grown HV10.out hg11 hoV);have HO11:=Lib.hid ho11;have HG11:=Lib.hid hg11;clear ho11 hb11 hg11 hat11)
     | go_in)
    have hX:Hid (Rdr w0 (w11.setCell ⟨gF,3,none⟩ (.slice A11 n11 y11)) g bs (q+1+1)):=((H9.out.alloc _).grown HG11.out hoG (fun j hj=>by have:=hoB.out j hj;omega)).far (q:=⟨gF,3,none⟩) hgn hgw _
    have hVX:=Lib.hid (blk_far HV11.out (p:=⟨gF,3,none⟩) (show w9.heap.size≠gF by omega) (.slice A11 n11 y11))
    have HFX:Hid ((w11.setCell ⟨gF,3,none⟩ (.slice A11 n11 y11)).heap[gF]? = some (.cells #[.string name, .int .i64 r1, .int .i64 r2, .slice A11 n11 y11] 45 (0,0))):=blk_set HF11.out 3 (.slice A11 n11 y11)
    have HRX:=Lib.hid (blk_far (blk_grown (blk_alloc HR9.out (.cells #[.string sc, .int .i64 t, .int .i64 (1+st)] 52)) HG11.out hoR) (p:=⟨gF,3,none⟩) (show w.heap.size≠gF by omega) (.slice A11 n11 y11))
    have HOX:=Lib.hid (Kd.R_far HO11.out (p:=⟨gF,3,none⟩) (fun k hk=>hk.2.2) (.slice A11 n11 y11))
    have HKX:Hid (KeepBut w (w11.setCell ⟨gF,3,none⟩ (.slice A11 n11 y11)) g none):=keep_set ((HK9.out.trans (KeepBut.of_below (below_alloc (Below.refl _ _) _) g none) (.inl rfl)).trans (KeepBut.of_grown HG11.out g) (by
     cases hx:(Value.slice Ax vs.length cx).ownBlock with
     | none=>exact .inl rfl
     | some b=>exact .inr ⟨b,rfl,hoB.out b hx⟩)) (show w.heap.size≤gF by omega) _
    have hXl:=blk_lt HFX.out
    have hVl:=blk_lt hVX.out
    generalize w11.setCell ⟨gF,3,none⟩ (.slice A11 n11 y11)=X at hX hVX HFX HRX HOX HKX hXl hVl ⊢
    clear HF10 HV10 HF11 HV11 HO11 HG11 HO9 HR9 HK9 H9 c10 c11 f11
    have hXd:Hid (Rdr w0 X.drew g bs (q+1+1)):=hX.out.drewN 1
    have hVd:Hid (X.drew.heap[w9.heap.size]? = some (.cells #[.string sc, .int .i64 t, .int .i64 (1+st)] 52 (0,0))):=hVX.out
    have HFd:Hid (X.drew.heap[gF]? = some (.cells #[.string name, .int .i64 r1, .int .i64 r2, .slice A11 n11 y11] 45 (0,0))):=HFX.out
    have HRd:Hid (X.drew.heap[w.heap.size]? = some (.cells #[.string ByteArray.empty, .int .i64 0, .int .i64 0, .slice none 0 0] 45 (0,0))):=HRX.out
    have HOd:=Lib.hid (Kd.R_drewN HOX.out 1)
    have HKd:Hid (KeepBut w X.drew g none):=HKX.out
    have cX:X.cell? ⟨w9.heap.size,2,none⟩=some (.int .i64 (1+st)):=(blk_cell hVX.out 2).trans rfl
    have hne9:w9.heap.size≠g:=by omega
    clear hX hVX HFX HRX HOX HKX
    go_region_held3 (fun W'=>W'.cell? ⟨w9.heap.size,2,none⟩=some (.int .i64 (1+st))) (first | assumption | go_keep) (first
     | (go_at_call 13;refine (pick_any H12.out 4 (by omega) (by omega) (by omega)).mono ?_;rintro e w13 ⟨s6,a13,b13,rfl,h13,k13⟩;have hV13:=Lib.hid (keep_blk k13 hV12.out hne9);have cV13:w13.cell? ⟨w9.heap.size,2,none⟩=some (.int .i64 (1+st)):=(blk_cell hV13.out 2).trans rfl;have H13:=Lib.hid h13;have K13:=Lib.hid k13;clear h13 k13)
     | (go_at_call 13;refine (pick_any hXd.out 2 (by omega) (by omega) (by omega)).mono ?_;rintro e w12 ⟨s5,a12,b12,rfl,h12,k12⟩;have hV12:=Lib.hid (keep_blk k12 hVd.out hne9);have cV12:w12.cell? ⟨w9.heap.size,2,none⟩=some (.int .i64 (1+st)):=(blk_cell hV12.out 2).trans rfl;have H12:=Lib.hid h12;have K12:=Lib.hid k12;clear h12 k12))
    all_goals
     go_wp2
     go_roundw
     case rel =>
      refine ⟨_,n',_,vs++[(⟨sc,t,1+st⟩:Visit)],q+1+1+1+1,rfl,by go_num,by rw [List.length_append,List.length_singleton];omega,?_,?_,visL_app HVL.out ⟨hsc,ht0,by show t≤100;omega,by show 1≤1+st;omega,by show 1+st≤7;omega⟩,by omega,by omega,H13.out,keep_blk K13.out (keep_blk K12.out HRd.out (by omega)) (by omega),keep_blk K13.out (keep_blk K12.out HFd.out (Ne.symm hgn)) (Ne.symm hgn),?_,(HKd.out.trans K12.out (.inl rfl)).trans K13.out (.inl rfl)⟩
      ·have tn:=tNext ht0 ht1 a9 b9 a12 b12 a13 b13
       first | (rw [tn.1];exact tn.2.1) | (show 0≤IntKind.i64.wrap (IntKind.i64.wrap (t+(1+st))+IntKind.i64.wrap (s5*s6));rw [tn.1];exact tn.2.1)
      ·have tn:=tNext ht0 ht1 a9 b9 a12 b12 a13 b13
       first | (rw [tn.1];exact tn.2.2) | (show IntKind.i64.wrap (IntKind.i64.wrap (t+(1+st))+IntKind.i64.wrap (s5*s6))+11*(n':Int)≤38;rw [tn.1];exact tn.2.2)
      exact R_keep (R_keep HOd.out K12.out (fun k hk=>hk.1)) K13.out (fun k hk=>hk.1)
     case measure=>simp [intOf]
   ·obtain rfl:n=0:=by omega
    obtain ⟨Ax,cx,rfl⟩:=Kd.R_slice HO.out
    have d0:=blk_cell HF.out 0
    have d1:=blk_cell HF.out 1
    have d2:=blk_cell HF.out 2
    have g0:=blk_cell HR.out 0
    have g1:=blk_cell HR.out 1
    have g2:=blk_cell HR.out 2
    have g3:=blk_cell HR.out 3
    have q0:=blk_frozen HR.out 0
    have q1:=blk_frozen HR.out 1
    have q2:=blk_frozen HR.out 2
    have q3:=blk_frozen HR.out 3
    simp only [List.getElem?_toArray,List.getElem?_cons_zero,List.getElem?_cons_succ] at d0 d1 d2 g0 g1 g2 g3
    go_wp2
    refine bodyPost_ret (results_cell_row rfl _ _ w.heap.size 45 #[.string name, .int .i64 r1, .int .i64 r2, .slice Ax vs.length cx] (0,0) _ rfl (blk_set (blk_set (blk_set (blk_set HR.out 0 _) 1 _) 2 _) 3 _) Tryz.underlying45 rfl (by kernel_rfl)) rfl ?_
    exact ⟨⟨name,r1,r2,vs⟩,Ax,cx,q,hq0,by omega,(by show 1≤vs.length;omega),(by show vs.length≤3;omega),(by show -1≤r1∧r1≤10001 ∧ -1≤r2∧r2≤61;omega),rfl,(by show 0≤r1;omega),(by show 0≤r2;omega),HVL.out,rfl,
     Kd.R_mono (Kd.R_far (p:=⟨w.heap.size,3,none⟩) (Kd.R_far (p:=⟨w.heap.size,2,none⟩) (Kd.R_far (p:=⟨w.heap.size,1,none⟩) (Kd.R_far (p:=⟨w.heap.size,0,none⟩) HO.out (fun k hk=>hk.2.1) _) (fun k hk=>hk.2.1) _) (fun k hk=>hk.2.1) _) (fun k hk=>hk.2.1) _) (fun _ _=>trivial),
     ((((HD.out.far (q:=⟨w.heap.size,0,none⟩) (show g≠w.heap.size by omega) h0w _).far (q:=⟨w.heap.size,1,none⟩) (show g≠w.heap.size by omega) h0w _).far (q:=⟨w.heap.size,2,none⟩) (show g≠w.heap.size by omega) h0w _).far (q:=⟨w.heap.size,3,none⟩) (show g≠w.heap.size by omega) h0w _),
     keep_set (keep_set (keep_set (keep_set HK.out (q:=⟨w.heap.size,0,none⟩) (Nat.le_refl _) _) (q:=⟨w.heap.size,1,none⟩) (Nat.le_refl _) _) (q:=⟨w.heap.size,2,none⟩) (Nat.le_refl _) _) (q:=⟨w.heap.size,3,none⟩) (Nat.le_refl _) _⟩
def bytesL (l:List Int):Prop:=∀ y∈l,0≤y∧y≤255
theorem openS_any (A:Option Addr) (c:Nat) (l:List Int) (w:World) (hr:Kd.C (Kd.int .u8) w A l.length l) (hc:l.length≤c) (hb:bytesL l) :
  Calls Tryz.prog 12 #[.slice A l.length c] w fun e w'=>∃ (g:Nat) (bs:List Int),e = .returned (.pointer (some ⟨g,0,none⟩))∧Rdr w w' g bs 0:=by
 obtain ⟨bs,hbs,hok⟩:∃ bs,spec_l1Open.f l=some (bs,0)∧BsOk bs:=by
  unfold spec_l1Open.f
  by_cases h:(l.length:Int) > 2000
  ·rw [if_pos h,if_pos (by omega)]
   exact ⟨_,rfl,by rw [List.length_take];omega,fun b hm=>hb b (List.mem_of_mem_take hm)⟩
  ·rw [if_neg h]
   exact ⟨_,rfl,by omega,hb⟩
 refine (spec_l1Open.calls A c l bs 0 w w (Below.refl _ _) hr hc hbs).mono ?_
 rintro e w' ⟨g,rfl,hi,hB,hB'⟩
 exact ⟨g,bs,rfl,⟨hi,hok,Int.le_refl _,hB⟩⟩
theorem tmod2 (m:Nat):Int.tmod (m:Int) 2=((m % 2:Nat):Int):=by rw [Int.tmod_eq_emod_of_nonneg (by omega)];omega
theorem tdiv2 (m:Nat):Int.tdiv (m:Int) 2=((m / 2:Nat):Int):=by rw [Int.tdiv_eq_ediv_of_nonneg (by omega)];omega
theorem many_any (s:ByteArray) (n:Nat) (w:World) (hs:s.size≤10) (hn:n≤20000) :
  Calls Tryz.prog 19 #[.string s, .int .i64 n] w fun e w'=>∃ t:ByteArray,t.size≤200000∧e = .returned (.string t)∧w=w':=by
 have hz:s.size*n≤10*20000:=Nat.mul_le_mul hs hn
 go_enter Tryz.func19,Tryz.ntmps19
 go_wp2
 go_loopw [0,1,5] (fun vs vn vo wr=>∃ (o s:ByteArray) (m:Nat),vo = .string o∧vs = .string s∧vn = .int .i64 m∧m≤20000∧Hid (o.size+s.size*m≤200000)∧s.size≤400000∧w=wr) (fun _ vn _ _=>(intOf vn).toNat)
 case atStart=>exact ⟨_,_,n,rfl,rfl,rfl,hn,by show 0+_≤_;omega,by omega,rfl⟩
 case round =>
  clear hz hs
  obtain ⟨o,s,m,rfl,rfl,rfl,hm,HZ,hs,rfl⟩:=hrel
  have ho:o.size≤200000:=Nat.le_trans (Nat.le_add_right _ _) HZ.out
  by_cases h0:0<m
  ·have e0:decide ((0:Int)<(m:Int))=true:=decide_eq_true (by omega)
   have hs2:s.size≤200000:=by have h1:=HZ.out;have h2:s.size*1≤s.size*m:=Nat.mul_le_mul_left _ h0;omega
   have hd:=tdiv2 m
   have ht:=tmod2 m
   have hm2:IntKind.i64.wrap (((m / 2:Nat):Int))=((m / 2:Nat):Int):=IntWalk.i64_in _ (by omega)
   have q1:¬ (9223372036854775807:Nat)<o.size+s.size:=by omega
   have q2:¬ (9223372036854775807:Nat)<s.size+s.size:=by omega
   have hx:=Nat.div_add_mod m 2
   rcases Nat.mod_two_eq_zero_or_one m with h2 | h2
   ·have e1:(((m % 2:Nat):Int) == 1)=false:=by rw [h2];rfl
    have HN:Hid (o.size+(s++s).size*(m / 2)≤200000):=by
     show _≤_
     rw [size_app]
     have h3:s.size*m=(s.size+s.size)*(m / 2):=by rw [← Nat.two_mul,Nat.mul_comm 2,Nat.mul_assoc,show 2*(m / 2)=m by omega]
     rw [← h3];exact HZ.out
    go_wp2
    go_roundw
    case rel=>exact ⟨o,s++s,m / 2,rfl,rfl,by first | rfl | (simp only [hd,hm2]),by omega,HN,by rw [size_app];omega,by trivial⟩
    case measure=>simp [intOf,hd,hm2];omega
   ·have e1:(((m % 2:Nat):Int) == 1)=true:=by rw [h2];rfl
    have HN:Hid ((o++s).size+(s++s).size*(m / 2)≤200000):=by
     show _≤_
     rw [size_app,size_app]
     have h3:s.size*m=s.size+(s.size+s.size)*(m / 2):=by
      rw [← Nat.two_mul,Nat.mul_comm 2,Nat.mul_assoc,Nat.add_comm,← Nat.mul_succ,show Nat.succ (2*(m / 2))=m by omega]
     rw [Nat.add_assoc,← h3];exact HZ.out
    go_wp2
    go_roundw
    case rel=>exact ⟨o++s,s++s,m / 2,rfl,rfl,by first | rfl | (simp only [hd,hm2]),by omega,HN,by rw [size_app];omega,by trivial⟩
    case measure=>simp [intOf,hd,hm2];omega
  ·have e0:decide ((0:Int)<(m:Int))=false:=decide_eq_false (by omega)
   go_wp2
   go_ret
   exact ⟨o,ho,rfl,rfl⟩
def lits7:List ByteArray:=[⟨#[]⟩,⟨#[119,104,97,116]⟩,⟨#[99,97,112,32,101,32,50,49]⟩,⟨#[99,97,112,32,69,32,49]⟩,⟨#[99,97,112,32,101]⟩,⟨#[97,100,100,32,97,32,49,32,49]⟩,⟨#[97,100,100,32,97,32,49,32,49,32,101,58,49]⟩,⟨#[97,100,100,32,97,32,49,32,49,32,101,58,49,58,48]⟩,⟨#[97,100,100,32,97,32,48,49,32,49,32,101,58,49,58,49]⟩,⟨#[100,114,111,112]⟩,⟨#[115,108,111,116,115,32,120]⟩,⟨#[98,111,117,110,100]⟩,⟨#[97,103,97,105,110,32,120]⟩]
def lits8:List ByteArray:=[⟨#[115,108,111,116,115]⟩,⟨#[99,111,109,112,114,101,115,115]⟩,⟨#[97,103,97,105,110]⟩,⟨#[98,111,117,110,100,32,101]⟩,⟨#[98,111,117,110,100,32,119]⟩]
theorem lits7_short:∀ s∈lits7,s.size≤20:=by decide
theorem lits8_short:∀ s∈lits8,s.size≤20:=by decide
set_option maxRecDepth 100000 in
set_option maxHeartbeats 4000000 in
theorem drawSession_any (A:Option Addr) (c:Nat) (l:List Int) (w:World) (hr:Kd.C (Kd.int .u8) w A l.length l) (hc:l.length≤c) (hb:bytesL l) :
  Calls Tryz.prog 7 #[.slice A l.length c] w fun e w'=>∃ t:ByteArray,t.size≤1000000∧e = .returned (.string t)∧Below w.heap.size w w':=by
 go_enter Tryz.func7,Tryz.ntmps7
 go_wp2_with (fail)
 refine (openS_any A c l w hr hc hb).mono ?_
 rintro e w1 ⟨g,bs,rfl,h1⟩
 clear hr hb
 go_wp2_with (fail)
 refine (pick_any h1 16 (by omega) (by omega) (by omega)).mono ?_
 rintro e w2 ⟨r,a2,b2,rfl,h2,k2⟩
 obtain ⟨m,rfl⟩:=Int.eq_ofNat_of_zero_le a2
 have H2:=Lib.hid h2
 clear k2 h2 h1
 go_wp2
 go_loopw [4,5] (fun vo vn wr=>∃ (n:Nat) (o:ByteArray) (q:Int),vn = .int .i64 n∧vo = .string o∧n≤15∧o.size+1000*n≤16000∧0≤q∧q+60*(n:Int)≤1000∧Hid (Rdr w wr g bs q)) (fun _ vn _=>(intOf vn).toNat)
 case atStart=>exact ⟨m,_,_,rfl,rfl,by omega,by show 0+_≤_;omega,by omega,by omega,H2⟩
 case round =>
  clear H2 a2 b2
  obtain ⟨n,o,q,rfl,rfl,hn,ho,hq0,hq1,HD⟩:=hrel
  obtain ⟨wa,rfl⟩:∃ wo:World,wo=wr:=⟨_,rfl⟩
  by_cases hlt:0<n
  ·obtain ⟨n',rfl⟩:∃ m,n=m+1:=⟨n-1,by omega⟩
   have e0:decide ((0:Int)<((n'+1:Nat):Int))=true:=decide_eq_true (by omega)
   have e0':decide ((0:Int)<(n':Int)+1)=true:=decide_eq_true (by omega)
   have jw:IntKind.i64.wrap ((n':Int)+1-1)=(n':Int):=by rw [show (n':Int)+1-1=n' by omega];exact IntWalk.i64_in _ (by omega)
   go_wp2_with (fail)
   refine (namesIn_any _).mono ?_
   rintro e w3 ⟨v,rfl,hN,hb3⟩
   obtain ⟨AN,cN,rfl⟩:=Kd.R_slice hN
   have h3:=HD.out.below hb3
   have hgl:=HD.out.lt
   have QO:=Lib.hid (ofIn_any h3 AN cN namesL (Kd.R_reads' hN).2.2 (Kd.R_reads' hN).2.1 (fun ad e _=>by have:=Kd.R_base hN ad.block (by rw [e];rfl);omega) (by omega) (by decide) (by decide))
   clear hN hb3 h3
   go_wp2_with (fail)
   refine QO.out.mono ?_
   rintro e w4 ⟨nm,hnm,rfl,h4,k4⟩
   have hz:=names_short nm hnm
   have H4:=Lib.hid h4
   clear QO k4 h4 hnm HD
   go_wp2_with (fail)
   refine (flightIn_any H4.out (by omega) nm).mono ?_
   rintro e w5 ⟨⟨f0,f1,f2,fv⟩,A5,c5,p5,hp5,hp5',hf1,hf3,hfs,hf0,hg1,hg2,hv,rfl,hf,h5,k5⟩
   obtain ⟨hs1,hs2,hs3,hs4⟩:=hfs
   dsimp only at hf1 hf3 hf0 hg1 hg2 hs1 hs2 hs3 hs4 hv hf
   subst hf0
   have HV:=Lib.hid hv
   dsimp only
   have hgl4:=H4.out.lt
   have hgl5:=h5.lt
   have z5:=k5.1
   have HF:Hid (Kd.R k52 52 w5 w4.heap.size (fun k=>k≠g) (.slice A5 fv.length c5) fv):=Kd.R_mono (Kd.R_bound hf) (fun k hk=>by have:=hk.2.1;omega)
   have H5:=Lib.hid h5
   clear k5 h5 hf hv H4
   go_wp2_with (fail)
   refine (pick_any (H5.out.alloc _) 10 (by omega) (by omega) (by omega)).mono ?_
   rintro e w6 ⟨r,a6,b6,rfl,h6,k6⟩
   have F6:Hid (w6.heap[w5.heap.size]? = some (.cells #[.string f0, .int .i64 f1, .int .i64 f2, .slice A5 fv.length c5] 45 (0,0))):=keep_blk k6 (blk_new _ _) (by omega)
   have V6:Hid (Kd.R k52 52 w6 w4.heap.size (fun k=>k≠g) (.slice A5 fv.length c5) fv):=R_keep (Kd.R_alloc HF.out _) k6 (fun k hk=>hk)
   have H6:=Lib.hid h6
   clear k6 h6 H5 HF
   have hcases:r=0∨(r=1∨r=2∨r=3∨r=4)∨r=5∨r=6∨r=7∨(r=8∨r=9):=by omega
   rcases hcases with rfl | hr | rfl | rfl | rfl | hr
   ·go_wp2_with (fail)
    refine (sectorIn_any H6.out (by omega)).mono ?_
    rintro e w7 ⟨s7,hs7,rfl,h7,k7⟩
    have H7:=Lib.hid h7
    clear h7 k7 H6 F6 V6
    have q1:¬ (9223372036854775807:Nat)<o.size+4:=by omega
    have q2:¬ (9223372036854775807:Nat)<o.size+4+s7.size:=by omega
    have q3:¬ (9223372036854775807:Nat)<o.size+4+s7.size+1:=by omega
    go_wp2_with (fail)
    refine (pick_any H7.out 4 (by omega) (by omega) (by omega)).mono ?_
    rintro e w8 ⟨r8,a8,b8,rfl,h8,k8⟩
    have H8:=Lib.hid h8
    have z8:=decS_size a8 (by omega)
    clear h8 k8 H7
    have q1:¬ (9223372036854775807:Nat)<o.size+4:=by omega
    have q2:¬ (9223372036854775807:Nat)<o.size+4+s7.size:=by omega
    have q3:¬ (9223372036854775807:Nat)<o.size+4+s7.size+1:=by omega
    have q4:¬ (9223372036854775807:Nat)<o.size+4+s7.size+1+(decS r8).size:=by omega
    have q5:¬ (9223372036854775807:Nat)<o.size+4+s7.size+1+(decS r8).size+1:=by omega
    go_wp2_with (fail)
    refine (decV_any r8 _ a8 (by omega)).mono ?_
    rintro e w9 ⟨rfl,hb9⟩
    have H9:=Lib.hid (H8.out.below hb9)
    clear hb9 H8
    go_wp2
    go_roundw
    case rel =>
     refine ⟨n',_,_,by go_num,rfl,by omega,?_,by omega,by omega,H9⟩
     simp only [size_app]
     show o.size+4+s7.size+1+(decS r8).size+1+1000*n'≤16000
     omega
    case measure=>simp [intOf]
   ·rcases hr with rfl | rfl | rfl | rfl
    all_goals
     have z1:=decS_size hg1 (by omega)
     have z2:=decS_size hg2 (by omega)
     have QD:=Lib.hid (fun (u:After w6) (n:Int) (h0:0≤n) (h1:n≤1000000000000)=>decV_any n u.w h0 h1)
     have m0:=After.cell ((blk_cell F6.out 0).trans rfl)
     have m1:=After.cell ((blk_cell F6.out 1).trans rfl)
     have m2:=After.cell ((blk_cell F6.out 2).trans rfl)
     have q1:¬ (9223372036854775807:Nat)<o.size+4:=by omega
     have q2:¬ (9223372036854775807:Nat)<o.size+4+f0.size:=by omega
     have q3:¬ (9223372036854775807:Nat)<o.size+4+f0.size+1:=by omega
     have q4:¬ (9223372036854775807:Nat)<o.size+4+f0.size+1+(decS f1).size:=by omega
     have q5:¬ (9223372036854775807:Nat)<o.size+4+f0.size+1+(decS f1).size+1:=by omega
     have q6:¬ (9223372036854775807:Nat)<o.size+4+f0.size+1+(decS f1).size+1+(decS f2).size:=by omega
     go_wp2
     refine wp_region_after (by kernel_rfl) (by kernel_rfl) ?_
     repeat (go_big_quiet_step (first | (go_at_call 18;exact calls_after (QD.out _ _ (by omega) (by omega)))))
     refine wpQuiet_nil ?_
     intro _ hw'
     obtain ⟨u,hw''⟩:=hw'
     subst hw''
     have U6:=Lib.hid u.hb
     have F7:=Lib.hid (blk_below F6.out U6.out)
     have V7:=Lib.hid (Kd.R_below V6.out U6.out)
     have H7:=Lib.hid (H6.out.below U6.out)
     clear F6 V6 H6 U6 QD m0 m1 m2 q1 q2 q3 q4 q5 q6
     obtain ⟨w7,hw7⟩:∃ x,x=u.w:=⟨_,rfl⟩
     rw [← hw7] at F7 V7 H7 ⊢
     clear hw7
     obtain ⟨o1,ho1⟩:∃ x,x=o++⟨#[97,100,100,32]⟩++f0++⟨#[32]⟩++decS f1++⟨#[32]⟩++decS f2:=⟨_,rfl⟩
     have ho2:o1.size≤o.size+100:=by rw [ho1];simp only [size_app];show o.size+4+f0.size+1+(decS f1).size+1+(decS f2).size≤o.size+100;omega
     rw [← ho1]
     clear ho1
     go_wp2
     go_loopw [4,7] (fun vo vk wr=>∃ (k:Nat) (o2:ByteArray),vk = .int .i64 k∧vo = .string o2∧k≤fv.length∧o2.size≤o.size+100+100*k∧Hid (Rdr w wr g bs (p5+1))∧Hid (wr.heap[w5.heap.size]? = some (.cells #[.string f0, .int .i64 f1, .int .i64 f2, .slice A5 fv.length c5] 45 (0,0)))∧Hid (Kd.R k52 52 wr w4.heap.size (fun k=>k≠g) (.slice A5 fv.length c5) fv)) (fun _ vk _=>fv.length-(intOf vk).toNat)
     case atStart=>exact ⟨0,o1,rfl,rfl,Nat.zero_le _,by omega,H7,F7,V7⟩
     case round =>
      clear H7 F7 V7 ho2
      obtain ⟨k,o2,rfl,rfl,hk,ho2,HD7,F7,V7⟩:=hrel
      obtain ⟨wb,rfl⟩:∃ wo:World,wo=wr:=⟨_,rfl⟩
      by_cases hlk:k<fv.length
      ·have j1:(k:Int)<fv.length:=by omega
       obtain ⟨ad,x,rfl,hx,x0,x1,x2⟩:=visitAt (Kd.R_reads' V7.out).2.2 k hlk
       obtain ⟨y0,y1,y2,y3,y4⟩:=HV.out x (List.mem_of_getElem? hx)
       have z3:=decS_size y1 (by omega)
       have z4:=decS_size (show 0≤x.f2 by omega) (by omega)
       have QD:=Lib.hid (fun (u:After wb) (n:Int) (h0:0≤n) (h1:n≤1000000000000)=>decV_any n u.w h0 h1)
       have m3':=(blk_cell F7.out 3).trans rfl
       have m3:=After.cell m3'
       have m0:=After.cell x0
       have m1:=After.cell x1
       have m2:=After.cell x2
       have q1:¬ (9223372036854775807:Nat)<o2.size+1:=by omega
       have q2:¬ (9223372036854775807:Nat)<o2.size+1+x.f0.size:=by omega
       have q3:¬ (9223372036854775807:Nat)<o2.size+1+x.f0.size+1:=by omega
       have q4:¬ (9223372036854775807:Nat)<o2.size+1+x.f0.size+1+(decS x.f1).size:=by omega
       have q5:¬ (9223372036854775807:Nat)<o2.size+1+x.f0.size+1+(decS x.f1).size+1:=by omega
       have q6:¬ (9223372036854775807:Nat)<o2.size+1+x.f0.size+1+(decS x.f1).size+1+(decS x.f2).size:=by omega
       clear hx x0 x1 x2
       go_wp2
       refine wp_region_after (by kernel_rfl) (by kernel_rfl) ?_
       repeat (go_big_quiet_step (first | (go_at_call 18;exact calls_after (QD.out _ _ (by omega) (by omega)))))
       refine wpQuiet_nil ?_
       intro _ hw'
       obtain ⟨u2,hw''⟩:=hw'
       subst hw''
       have U7:=Lib.hid u2.hb
       go_wp2
       go_roundw
       case rel =>
        refine ⟨k+1,_,by go_num,rfl,hlk,?_,HD7.out.below U7.out,blk_below F7.out U7.out,Kd.R_below V7.out U7.out⟩
        simp only [size_app]
        show o2.size+1+x.f0.size+1+(decS x.f1).size+1+(decS x.f2).size≤o.size+100+100*(k+1)
        omega
       case measure=>simp [intOf];omega
      ·obtain rfl:k=fv.length:=by omega
       have m3':=(blk_cell F7.out 3).trans rfl
       have q1:¬ (9223372036854775807:Nat)<o2.size+1:=by omega
       go_wp2
       go_roundw
       case rel =>
        refine ⟨n',_,_,by go_num,rfl,by omega,?_,by omega,by omega,HD7⟩
        simp only [size_app]
        show o2.size+1+1000*n'≤16000
        omega
       case measure=>simp [intOf]
   ·have m0:=(blk_cell F6.out 0).trans rfl
    have q1:¬ (9223372036854775807:Nat)<o.size+5:=by omega
    have q2:¬ (9223372036854775807:Nat)<o.size+5+f0.size:=by omega
    have q3:¬ (9223372036854775807:Nat)<o.size+5+f0.size+1:=by omega
    clear F6 V6
    go_wp2
    go_roundw
    case rel =>
     refine ⟨n',_,_,by go_num,rfl,by omega,?_,by omega,by omega,H6⟩
     simp only [size_app]
     show o.size+5+f0.size+1+1000*n'≤16000
     omega
    case measure=>simp [intOf]
   ·go_wp2_with (fail)
    refine (sectorIn_any H6.out (by omega)).mono ?_
    rintro e w7 ⟨s7,hs7,rfl,h7,k7⟩
    have H7:=Lib.hid h7
    clear h7 k7 H6 F6 V6
    have q1:¬ (9223372036854775807:Nat)<o.size+5:=by omega
    have q2:¬ (9223372036854775807:Nat)<o.size+5+s7.size:=by omega
    have q3:¬ (9223372036854775807:Nat)<o.size+5+s7.size+1:=by omega
    go_wp2
    go_roundw
    case rel =>
     refine ⟨n',_,_,by go_num,rfl,by omega,?_,by omega,by omega,H7⟩
     simp only [size_app]
     show o.size+5+s7.size+1+1000*n'≤16000
     omega
    case measure=>simp [intOf]
   ·go_wp2_with (fail)
    refine (ofIn_any (H6.out.alloc _) _ 13 lits7 (litSC w6 lits7 (by decide)) (by decide) (fun ad e _=>by injection e with e;rw [← e];show w6.heap.size≠g;have:=H6.out.lt;omega) (by omega) (by decide) (by decide)).mono ?_
    rintro e w7 ⟨s7,hm7,rfl,h7,k7⟩
    have hs7:=lits7_short s7 hm7
    have H7:=Lib.hid h7
    clear h7 k7 H6 F6 V6 hm7
    have q1:¬ (9223372036854775807:Nat)<o.size+s7.size:=by omega
    have q2:¬ (9223372036854775807:Nat)<o.size+s7.size+1:=by omega
    go_wp2
    go_roundw
    case rel =>
     refine ⟨n',_,_,by go_num,rfl,by omega,?_,by omega,by omega,H7⟩
     simp only [size_app]
     show o.size+s7.size+1+1000*n'≤16000
     omega
    case measure=>simp [intOf]
   ·rcases hr with rfl | rfl
    all_goals
     go_wp2_with (fail)
     refine (ofIn_any (H6.out.alloc _) _ 5 lits8 (litSC w6 lits8 (by decide)) (by decide) (fun ad e _=>by injection e with e;rw [← e];show w6.heap.size≠g;have:=H6.out.lt;omega) (by omega) (by decide) (by decide)).mono ?_
     rintro e w7 ⟨s7,hm7,rfl,h7,k7⟩
     have hs7:=lits8_short s7 hm7
     have H7:=Lib.hid h7
     clear h7 k7 H6 F6 V6 hm7
     have q1:¬ (9223372036854775807:Nat)<o.size+s7.size:=by omega
     have q2:¬ (9223372036854775807:Nat)<o.size+s7.size+1:=by omega
     go_wp2
     go_roundw
     case rel =>
      refine ⟨n',_,_,by go_num,rfl,by omega,?_,by omega,by omega,H7⟩
      simp only [size_app]
      show o.size+s7.size+1+1000*n'≤16000
      omega
     case measure=>simp [intOf]
  ·have e0:decide ((0:Int)<(n:Int))=false:=decide_eq_false (by omega)
   obtain rfl:n=0:=by omega
   go_wp2_with (fail)
   refine (pick_any HD.out 24 (by omega) (by omega) (by omega)).mono ?_
   rintro e w3 ⟨r,a3,b3,rfl,h3,k3⟩
   have H3:=Lib.hid h3
   clear h3 k3 HD
   by_cases r0:r=0
   ·subst r0
    go_wp2_with (fail)
    refine (pick_any H3.out 2 (by omega) (by omega) (by omega)).mono ?_
    rintro e w4 ⟨r4,a4,b4,rfl,h4,k4⟩
    obtain ⟨m4,rfl⟩:=Int.eq_ofNat_of_zero_le a4
    have H4:=Lib.hid h4
    clear h4 k4 H3
    have jn:IntKind.i64.wrap (200+(m4:Int))=((200+m4:Nat):Int):=by rw [show 200+(m4:Int)=((200+m4:Nat):Int) by omega];exact IntWalk.i64_in _ (by omega)
    go_wp2_with (fail)
    rw [show (200:Int)+(m4:Int)=((200+m4:Nat):Int) by omega]
    refine (many_any ⟨#[115,108,111,116,115,10]⟩ (200+m4) _ (by decide) (by omega)).mono ?_
    rintro e w5 ⟨t,ht,rfl,rfl⟩
    go_wp2
    go_ret
    exact ⟨t,by omega,rfl,H4.out.hb⟩
   by_cases r1:r=1
   ·subst r1
    go_wp2_with (fail)
    refine (pick_any H3.out 2 (by omega) (by omega) (by omega)).mono ?_
    rintro e w4 ⟨r4,a4,b4,rfl,h4,k4⟩
    obtain ⟨m4,rfl⟩:=Int.eq_ofNat_of_zero_le a4
    have H4:=Lib.hid h4
    clear h4 k4 H3
    have jn:IntKind.i64.wrap (10000+(m4:Int))=((10000+m4:Nat):Int):=by rw [show 10000+(m4:Int)=((10000+m4:Nat):Int) by omega];exact IntWalk.i64_in _ (by omega)
    go_wp2_with (fail)
    rw [show (10000:Int)+(m4:Int)=((10000+m4:Nat):Int) by omega]
    refine (many_any ⟨#[120]⟩ (10000+m4) _ (by decide) (by omega)).mono ?_
    rintro e w5 ⟨t,ht,rfl,rfl⟩
    go_wp2
    go_ret
    exact ⟨t,by omega,rfl,H4.out.hb⟩
   have e2:(r == 0)=false:=by simp [r0]
   have e3:(r == 1)=false:=by simp [r1]
   have q1:¬ (9223372036854775807:Nat)<o.size+5:=by omega
   go_wp2
   go_ret
   refine ⟨_,?_,rfl,H3.out.hb⟩
   rw [size_app]
   show o.size+5≤1000000
   omega
end Go.Proofs.YthcpbojmalgdbaaGreatDoor.Q
