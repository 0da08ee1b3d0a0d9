/- Merged out of this seat's own texts. -/
import Derived.Test.YthcpbojmalgdbaaGreatDoorMlM
import Derived.Test.YthcpbojmalgdbaaGreatDoorMlA
import Derived.Test.YthcpbojmalgdbaaGreatDoorMlC
import Derived.Deep.RegionHeld3
import Derived.Test.YthcpbojmalgdbaaGreatDoorMlN
set_option linter.unusedVariables false
set_option linter.unusedSimpArgs false
namespace Go.Proofs.YthcpbojmalgdbaaGreatDoor.Q
open Go.RowKit Go.Proofs.YthcpbojmalgdbaaGreatDoorW.PrintWords Go.Proofs.YthcpbojmalgdbaaGreatDoor.Core Go.Maps Go.WideAt
def MapIs2 (w:World) (b N:Nat) (f:Int→Nat):Prop :=
 ∃ D:DataW Unit,w.ownsMap Tryz.prog 3 (plainElem Tryz.prog 3) b N D∧IsMap D∧(∀ t,D.atKey (.int .i64 t) (.lit (.int .i64 0)) = .lit (.int .i64 (f t))∧f t≤N)∧∀ t:Int,Maps.has D (.int .i64 t)=true→f t≠0
theorem MapIs2.made (w:World):MapIs2 (w.alloc (.map #[] 0)) w.heap.size 0 (fun _=>0) :=
 ⟨.map [],World.ownsMap_made _ _ _ _,isMap_empty,fun _=>⟨rfl,Nat.le_refl _⟩,fun _ h=>by cases h⟩
theorem MapIs2.lt {w:World} {b N:Nat} {f:Int→Nat} (h:MapIs2 w b N f):b<w.heap.size:=by obtain ⟨D,h1,_⟩:=h;exact h1.lt
theorem MapIs2.mono {w:World} {b N M:Nat} {f:Int→Nat} (h:MapIs2 w b N f) (hN:N≤M):MapIs2 w b M f:=by
 obtain ⟨D,h1,h2,h3,h4⟩:=h
 exact ⟨D,h1.mono hN,h2,fun t=>⟨(h3 t).1,Nat.le_trans (h3 t).2 hN⟩,h4⟩
theorem MapIs2.alloc {w:World} {b N:Nat} {f:Int→Nat} (h:MapIs2 w b N f) (o:Obj):MapIs2 (w.alloc o) b N f:=by
 obtain ⟨D,h1,h2,h3⟩:=h
 exact ⟨D,h1.alloc o,h2,h3⟩
theorem MapIs2.ext {w:World} {b N:Nat} {f g:Int→Nat} (h:MapIs2 w b N f) (e:∀ t,f t=g t):MapIs2 w b N g:=by
 obtain rfl:f=g:=funext e
 exact h
theorem MapIs2.put {w':World} {b N:Nat} {f:Int→Nat} {D:DataW Unit} {key:Int} (hIs:IsMap D) (hD:∀ t,D.atKey (.int .i64 t) (.lit (.int .i64 0)) = .lit (.int .i64 (f t))∧f t≤N) (hP:∀ t:Int,Maps.has D (.int .i64 t)=true→f t≠0)
  (h:w'.ownsMap Tryz.prog 3 (plainElem Tryz.prog 3) b (N+1) (D.put (.int .i64 key) (.lit (.int .i64 ((f key:Int)+1))))):MapIs2 w' b (N+1) (fun t=>if t=key then f t+1 else f t):=by
 refine ⟨_,h,hIs.put _ _,fun t => ?_,fun t ht => ?_⟩
 ·by_cases e:t=key
  ·subst e
   rw [atKey_put_same hIs (show WideAt.IsKeyLit (.int .i64 t) from trivial)]
   have:=(hD t).2
   simp
   omega
  ·rw [atKey_put_other (by intro h;injection h;contradiction)]
   simp only [if_neg e]
   exact ⟨(hD t).1,by have:=(hD t).2;omega⟩
 ·by_cases e:t=key
  ·simp only [if_pos e];omega
  ·simp only [if_neg e]
   refine hP t ?_
   rwa [has_put_other (by intro h;injection h;contradiction)] at ht
set_option maxRecDepth 100000 in
set_option maxHeartbeats 4000000 in
theorem impl_loads2_any (A:Option Addr) (c:Nat) (l:List Flight) (A1:Option Addr) (c1:Nat) (s:List Int) (sec:ByteArray) (w:World) (hr:Kd.C k45 w A l.length l) (hr1:Kd.C (Kd.int .i64) w A1 s.length s) (hs:slotsB l s=true) :
  Calls Tryz.prog 82 #[.slice A l.length c, .slice A1 s.length c1, .string sec] w fun e w'=>e = .returned (.map (some w.heap.size))∧MapIs2 w' w.heap.size 1200 (fun t=>cntTo l s sec t l.length)∧Below w.heap.size w w':=by
 obtain ⟨hfl,hlen,hsb⟩:=slotsB_parts hs
 obtain ⟨hl8,hfs,_⟩:=flightsB_parts hfl
 have HL:=Lib.hid hlen
 have HFS:=Lib.hid hfs
 have HSB:=Lib.hid hsb
 clear hlen hsb hfs hfl hs
 have hmm := @run_makeMap Tryz.prog
 go_enter Tryz.func82,Tryz.ntmps82
 go_wp2
 go_loopw [16] (fun v wr=>∃ k:Nat,k≤l.length∧v = .int .i64 k∧MapIs2 wr w.heap.size (150*k) (fun t=>cntTo l s sec t k)∧Below w.heap.size w wr) (fun v _=>l.length-(intOf v).toNat)
 case atStart=>exact ⟨0,Nat.zero_le _,rfl,(MapIs2.made w).ext (fun t=>(cntTo_zero l s sec t).symm),(Below.refl _ _).alloc (Nat.le_refl _) _⟩
 case round =>
  obtain ⟨k,hk,rfl,hM,hb⟩:=hrel
  by_cases hlt:k<l.length
  ·obtain ⟨ad,f,A3,c3,rfl,hf,f0,f1,f2,f3,hl3,hr3⟩:=flightAt hr k hlt
   obtain ⟨ad1,z,rfl,hz,z0⟩:=intAt hr1 k (by rw [HL.out];exact hlt)
   have j4:(k:Int)<l.length:=by omega
   have j5:(k:Int)<s.length:=by rw [HL.out];omega
   have HFZ:=Lib.hid (cntTo_step hf hz sec)
   have hzb:=HSB.out z (List.mem_of_getElem? hz)
   have HV:=Lib.hid (visitsB_parts (flightB_parts (HFS.out f (List.mem_of_getElem? hf))).2.2.2.2.2)
   have HZ:=Lib.hid hzb
   clear hf hz hzb
   have f0:=pw_cell_below hb f0
   have f1:=pw_cell_below hb f1
   have f2:=pw_cell_below hb f2
   have f3:=pw_cell_below hb f3
   have hz1:=cell_al (pw_cell_below hb z0) (.cells #[.string f.f0, .int .i64 f.f1, .int .i64 f.f2, .slice A3 f.f3.length c3] 45)
   by_cases hz0:z<0
   ·have e1:decide (z<0)=true:=decide_eq_true hz0
    go_wp2
    go_roundw
    case rel=>exact ⟨k+1,by omega,by go_num,((hM.alloc _).mono (by omega)).ext (fun t=>by rw [HFZ.out,cntP,if_neg (by omega)];rfl),hb.alloc hb.size _⟩
    case measure=>simp [intOf];omega
   ·have e1:decide (z<0)=false:=decide_eq_false hz0
    go_wp2
    clear f0 f1 f2 f3 hz1
    go_loopw [29] (fun v wr=>∃ j:Nat,j≤f.f3.length∧v = .int .i64 j∧MapIs2 wr w.heap.size (150*k+30*j) (fun t=>cntTo l s sec t k+cntV z sec t (f.f3.take j))∧Below w.heap.size w wr) (fun v _=>f.f3.length-(intOf v).toNat)
    case atStart=>exact ⟨0,Nat.zero_le _,rfl,(hM.alloc _).ext (fun t=>by rw [cntV_zero];rfl),hb.alloc hb.size _⟩
    case round =>
     obtain ⟨j,hj,rfl,hM,hb⟩:=hrel
     have hv5:f.f3.length≤5:=HV.out.2.1
     by_cases hjt:j<f.f3.length
     ·obtain ⟨ad3,v,rfl,hv,v0,v1,v2⟩:=visitAt hr3 j hjt
      have j6:(j:Int)<f.f3.length:=by omega
      have HVZ:=Lib.hid (cntV_step hv z sec)
      have hvb:=visitB_stay (HV.out.2.2.1 v (List.mem_of_getElem? hv))
      have v0:=pw_cell_below hb v0
      have v1:=pw_cell_below hb v1
      have v2:=pw_cell_below hb v2
      clear hv
      by_cases hsec:v.f0=sec
      ·have e3:=str_same hsec
       have HS:=Lib.hid hsec
       clear hsec
       go_wp2
       clear v0 v1 v2
       have hVlt:=hM.lt
       go_loopw [12] (fun u wi=>∃ i:Nat,(i:Int)≤v.f2∧u = .int .i64 i∧MapIs2 wi w.heap.size (150*k+30*j+i) (fun t=>cntTo l s sec t k+cntV z sec t (f.f3.take j)+if z+v.f1≤t∧t<z+v.f1+i then 1 else 0) ∧
        wi.cell? ⟨wr.heap.size,1,none⟩=some (.int .i64 v.f1)∧wi.cell? ⟨wr.heap.size,2,none⟩=some (.int .i64 v.f2)∧Below w.heap.size w wi∧wr.heap.size<wi.heap.size) (fun u _=>(v.f2-intOf u).toNat)
       case atStart=>exact ⟨0,by omega,rfl,(hM.alloc _).ext (fun t=>by rw [if_neg (by omega)];rfl),by simp,by simp,hb.alloc hb.size _,by simp⟩
       case round =>
        have hBw:=hb.size
        have hvb2:=hvb
        clear hvb
        obtain ⟨i,hi,rfl,hM,c1,c2,hb,hsz⟩:=hrel
        by_cases hit:(i:Int)<v.f2
        ·have e4:decide ((i:Int)<v.f2)=true:=decide_eq_true hit
         have hz1:=pw_cell_below hb z0
         have HZb:=HZ.out
         have j7:IntKind.i64.wrap (z+v.f1)=z+v.f1:=IntWalk.i64_in _ (by omega)
         have j8:IntKind.i64.wrap (z+v.f1+i)=z+v.f1+i:=IntWalk.i64_in _ (by omega)
         obtain ⟨D,hown,hIs,hD,hPos⟩:=hM
         have HPos:=Lib.hid hPos
         clear hPos
         go_wp2
         go_still_tail 10,(by kernel_rfl)
         change wpList _ _ _ _ _ wr.drew
         have hk1:keyOf Tryz.prog 3 (.int .i64 (z+v.f1+i))=some (.int .i64 (z+v.f1+i)):=keyOf_int_mk Tryz.underlying3 (WalkArith.wf_i64 (by omega))
         have HD:=Lib.hid hD
         have hbd:=(hD (z+v.f1+i)).2
         clear hD
         go_wp2_with (first
          | (at_lookup;refine wpList_lookup_own_int _ rfl _ _ 106 rfl 3 3 .i64 lawInt Tryz.underlying106 Tryz.underlying3 (zeroInt _) w.heap.size _ _ rfl hown.drew _ _ rfl hk1 ?_;intro cc hat hwc;rw [(HD.out _).1] at hat;have hcc:=Lib.hid hat;have hc0:0≤cc∧cc≤1200:=(by injection hat with hat;injection hat with _ hat;omega);clear hat)
          | (at_mapUpdate;refine wpList_mapUpdate_own _ rfl _ _ _ 106 rfl 3 3 lawInt Tryz.underlying106 _ w.heap.size _ _ rfl hown.drew (by unfold maxLen;omega) _ _ _ rfl rfl hk1 _ [] (plainElem_int Tryz.underlying3 (WalkArith.wf_i64 (by omega))) ?_;intro w1 hown1 hg1)
          | go_in)
         go_roundw
         case rel =>
          have ecc:cc=((cntTo l s sec (z+v.f1+i) k+cntV z sec (z+v.f1+i) (f.f3.take j)+if z+v.f1≤z+v.f1+i∧z+v.f1+i<z+v.f1+i then 1 else 0:Nat):Int):=by
           have h:=hcc.out
           injection h with h
           injection h with _ h
           exact h.symm
          rw [ecc] at hown1
          exact ⟨i+1,by omega,rfl,(MapIs2.put hIs HD.out HPos.out hown1).ext (fun t=>by rw [covers_next z t v.f1 i _ (by omega)];rfl),hg1.cell (by exact c1) (by simp;omega),hg1.cell (by exact c2) (by simp;omega),hb.drew.grown hg1 hb.size (fun j hj=>by cases hj;exact Nat.le_refl _),Nat.lt_of_lt_of_le hsz hg1.size⟩
         case measure=>simp [intOf];omega
        ·go_wp2
         go_roundw
         case rel=>exact ⟨j+1,by omega,by go_num,(hM.mono (by omega)).ext (fun t=>by rw [HVZ.out,covers_end z t HS.out (by omega),Nat.add_assoc]),hb⟩
         case measure=>simp [intOf];omega
      ·have e3:=str_other hsec
       have HS:=Lib.hid hsec
       go_wp2
       go_roundw
       case rel=>exact ⟨j+1,by omega,by go_num,((hM.alloc _).mono (by omega)).ext (fun t=>by rw [HVZ.out];simp [coversB,HS.out]),hb.alloc hb.size _⟩
       case measure=>simp [intOf];omega
     ·go_wp2
      go_roundw
      case rel=>exact ⟨k+1,by omega,by go_num,(hM.mono (by omega)).ext (fun t=>by rw [HFZ.out,cntP,if_pos (by omega),List.take_of_length_le (by omega)]),hb⟩
      case measure=>simp [intOf];omega
  ·go_wp2
   go_ret
   obtain rfl:k=l.length:=by omega
   exact ⟨rfl,hM.mono (by omega),hb⟩
end Go.Proofs.YthcpbojmalgdbaaGreatDoor.Q
namespace Go.Proofs.YthcpbojmalgdbaaGreatDoor.Q
open Go.RowKit Go.Proofs.YthcpbojmalgdbaaGreatDoorW.PrintWords Go.Proofs.YthcpbojmalgdbaaGreatDoor.Core
section
variable {w:World} {base g n cap:Nat} {ok:Nat→Prop} {xs:List Run}
theorem runAt (h:Kd.R k74 74 w base ok (.slice (some ⟨g,0,none⟩) n cap) xs) (k:Nat) (hk:k<n) :
  w.cell? ⟨g,k*3,none⟩=some (.int .i64 (xs.getD k ⟨0,0,0⟩).f0)∧w.cell? ⟨g,k*3+1,none⟩=some (.int .i64 (xs.getD k ⟨0,0,0⟩).f1)∧w.cell? ⟨g,k*3+2,none⟩=some (.int .i64 (xs.getD k ⟨0,0,0⟩).f2)∧w.frozen? ⟨g,k*3+1,none⟩=false:=by
 obtain ⟨c,hcl,hM,hcc,hfr⟩:=Kd.R_elem h z74 (k:Int) (by omega) (by omega)
 obtain rfl:=k74_openM hM
 exact ⟨hcc 0 _ rfl,hcc 1 _ rfl,hcc 2 _ rfl,hfr 1⟩
theorem R_setTo (h:Kd.R k74 74 w base ok (.slice (some ⟨g,0,none⟩) n cap) xs) (k:Nat) (hk:k<n) (t:Int) :
  Kd.R k74 74 (w.setCell ⟨g,k*3+1,none⟩ (.int .i64 t)) base ok (.slice (some ⟨g,0,none⟩) n cap) (xs.set k ⟨(xs.getD k ⟨0,0,0⟩).f0,t,(xs.getD k ⟨0,0,0⟩).f2⟩):=by
 obtain ⟨c,hcl,hM,hcc,hfr⟩:=Kd.R_elem h z74 (k:Int) (by omega) (by omega)
 obtain rfl:=k74_openM hM
 exact (Kd.R_seg h (k:Int) (by omega) (by omega) (seg:=[.int .i64 t]) (j:=1) hcl hcc (show 1+1≤3 from by decide) (x':=(⟨(xs.getD k ⟨0,0,0⟩).f0,t,(xs.getD k ⟨0,0,0⟩).f2⟩:Run)) (k74_mkM _ _ _ (⟨(xs.getD k ⟨0,0,0⟩).f0,t,(xs.getD k ⟨0,0,0⟩).f2⟩:Run)) (fun _ hk=>hk)).1
end
theorem infoRun:(Tryz.prog.info? 74).map (fun i=>(i.zero,i.size,i.bytes))=some (some (.agg #[.int .i64 0, .int .i64 0, .int .i64 0]),3,24):=by kernel_rfl
def EndsTo (l:List Flight) (s:List Int) (k:Nat) (lo hi:Int):Prop:=(0≤lo∧lo≤10290 ∧ -1≤hi∧hi≤10290)∧∀ (j:Nat) (f:Flight) (x:Int),j<k→l[j]? = some f→s[j]? = some x→0≤x→lo≤x∧∀ v∈f.f3,x+v.f1+v.f2≤hi
theorem ends_none {l:List Flight} {s:List Int} {k:Nat} {lo hi x:Int} (h:EndsTo l s k lo hi) (hx:s[k]? = some x) (h0:x<0):EndsTo l s (k+1) lo hi :=
 ⟨h.1,fun j f y hj hf hy hy0=>by
  by_cases e:j=k
  ·subst e;rw [hx] at hy;injection hy with hy;omega
  ·exact h.2 j f y (by omega) hf hy hy0⟩
theorem ends_more {l:List Flight} {s:List Int} {k:Nat} {lo hi lo' hi' x:Int} {f:Flight} (h:EndsTo l s k lo hi) (hf:l[k]? = some f) (hx:s[k]? = some x) (h1:lo'≤lo∧lo'≤x∧0≤lo') (h2:hi≤hi'∧hi'≤10290) (h3:∀ v∈f.f3,x+v.f1+v.f2≤hi'):EndsTo l s (k+1) lo' hi':=by
 obtain ⟨⟨a,b,c,d⟩,h⟩:=h
 refine ⟨⟨h1.2.2,by omega,by omega,h2.2⟩,fun j f' y hj hf' hy hy0 => ?_⟩
 by_cases e:j=k
 ·subst e
  rw [hx] at hy;injection hy with hy
  rw [hf] at hf';injection hf' with hf'
  subst hy;subst hf'
  exact ⟨h1.2.1,h3⟩
 ·obtain ⟨q1,q2⟩:=h j f' y (by omega) hf' hy hy0
  exact ⟨by omega,fun v hv=>by have:=q2 v hv;omega⟩
theorem ends_all {l:List Flight} {s:List Int} {lo hi:Int} (h:EndsTo l s l.length lo hi):EndsOk l s lo hi:=by
 obtain ⟨⟨a,b,c,d⟩,h⟩:=h
 refine ⟨a,b,c,d,fun p hp h0 => ?_⟩
 obtain ⟨j,hj⟩:=List.mem_iff_getElem?.1 hp
 have hz:=List.getElem?_zip_eq_some.1 hj
 exact h j p.1 p.2 (some_lt hz.1) hz.1 hz.2 h0
theorem ends_ex {l:List Flight} {s:List Int} (hs:slotsB l s=true):EndsOk l s 0 10290:=by
 obtain ⟨hfl,hlen,hsb⟩:=slotsB_parts hs
 refine ⟨by omega,by omega,by omega,by omega,fun p hp h0=>⟨h0,fun v hv => ?_⟩⟩
 have h1:=hsb p.2 (List.of_mem_zip hp).2
 have hb:=visitB_stay ((visitsB_parts (flightB_parts ((flightsB_parts hfl).2.1 p.1 (List.of_mem_zip hp).1)).2.2.2.2.2).2.2.1 v hv)
 omega
set_option maxRecDepth 100000 in
set_option maxHeartbeats 4000000 in
theorem spec_ends_any (A:Option Addr) (c:Nat) (l:List Flight) (A1:Option Addr) (c1:Nat) (s:List Int) (w:World) (hr:Kd.C k45 w A l.length l) (hr1:Kd.C (Kd.int .i64) w A1 s.length s) (hs:slotsB l s=true) :
  Calls Tryz.prog 58 #[.slice A l.length c, .slice A1 s.length c1] w fun e w'=>∃ lo hi:Int,EndsOk l s lo hi∧e = .returned (.tuple #[.int .i64 lo, .int .i64 hi])∧Below w.heap.size w w':=by
 obtain ⟨hfl,hlen,hsb⟩:=slotsB_parts hs
 obtain ⟨hl8,hfs,_⟩:=flightsB_parts hfl
 have HL:=Lib.hid hlen
 have HFS:=Lib.hid hfs
 have HSB:=Lib.hid hsb
 clear hlen hsb hfs hfl hs
 go_enter Tryz.func58,Tryz.ntmps58
 go_wp2
 go_loopw [6,7,8] (fun a b v wr=>∃ (k:Nat) (lo hi:Int),a = .int .i64 lo∧b = .int .i64 hi∧v = .int .i64 k∧k≤l.length∧Hid (EndsTo l s k lo hi)∧Hid (Below w.heap.size w wr)) (fun _ _ v _=>l.length-(intOf v).toNat)
 case atStart=>exact ⟨0,10290,-1,rfl,rfl,rfl,Nat.zero_le _,⟨by omega,fun j f x hj=>by omega⟩,Below.refl _ _⟩
 case round =>
  obtain ⟨k,lo,hi,rfl,rfl,rfl,hk,HE,HB⟩:=hrel
  by_cases hlt:k<l.length
  ·obtain ⟨ad,f,A3,c3,rfl,hf,f0,f1,f2,f3,hl3,hr3⟩:=flightAt hr k hlt
   obtain ⟨ad1,z,rfl,hz,z0⟩:=intAt hr1 k (by rw [HL.out];exact hlt)
   have j4:(k:Int)<l.length:=by omega
   have j5:(k:Int)<s.length:=by rw [HL.out];omega
   have hzb:=HSB.out z (List.mem_of_getElem? hz)
   obtain ⟨hv1,hv5,hvs,hvl⟩:=visitsB_parts (flightB_parts (HFS.out f (List.mem_of_getElem? hf))).2.2.2.2.2
   obtain ⟨m,hm⟩:∃ m,f.f3.length=m+1:=⟨f.f3.length-1,by omega⟩
   obtain ⟨ad3,v,rfl,hv,v0,v1,v2⟩:=visitAt hr3 m (by omega)
   have hvb:=visitB_stay (hvs v (List.mem_of_getElem? hv))
   have HMAX:=Lib.hid (last_max f.f3 hvl (fun u hu=>by have:=visitB_stay (hvs u hu);omega) v (by rw [hm,Nat.add_sub_cancel];exact hv))
   have HF:=Lib.hid hf
   have HZ:=Lib.hid hz
   have f3:=pw_cell_below HB.out f3
   have z0:=pw_cell_below HB.out z0
   have v0:=pw_cell_below HB.out v0
   have v1:=pw_cell_below HB.out v1
   have v2:=pw_cell_below HB.out v2
   have n0:=World.new_ne wr _ f3
   have n1:=World.new_ne wr _ z0
   have n2:=World.new_ne wr _ v0
   have n3:=World.new_ne wr _ v1
   have n4:=World.new_ne wr _ v2
   have jm:IntKind.i64.wrap ((f.f3.length:Int)-1)=(m:Int):=by rw [hm,show ((m+1:Nat):Int)-1=m by omega];exact IntWalk.i64_in _ (by omega)
   have jl:(m:Int)<f.f3.length:=by omega
   have w1:IntKind.i64.wrap (z+v.f1)=z+v.f1:=IntWalk.i64_in _ (by omega)
   have w2:IntKind.i64.wrap (z+v.f1+v.f2)=z+v.f1+v.f2:=IntWalk.i64_in _ (by omega)
   clear f0 f1 f2 hv hf hz hvs hvl hm
   by_cases hz0:z<0
   ·have e1:decide (z<0)=true:=decide_eq_true hz0
    go_wp2
    go_roundw
    case rel=>exact ⟨k+1,lo,hi,rfl,rfl,by go_num,hlt,ends_none HE.out HZ.out hz0,HB.out⟩
    case measure=>simp [intOf];omega
   ·have e1:decide (z<0)=false:=decide_eq_false hz0
    have hEb:=HE.out.1
    have qz:=cell_al z0 (.cells #[.string v.f0, .int .i64 v.f1, .int .i64 v.f2] 52)
    have q1:(wr.alloc (.cells #[.string v.f0, .int .i64 v.f1, .int .i64 v.f2] 52)).cell? ⟨wr.heap.size,1,none⟩=some (.int .i64 v.f1):=by simp
    have q2:(wr.alloc (.cells #[.string v.f0, .int .i64 v.f1, .int .i64 v.f2] 52)).cell? ⟨wr.heap.size,2,none⟩=some (.int .i64 v.f2):=by simp
    by_cases hc1:z<lo
    ·by_cases hc2:hi<z+v.f1+v.f2
     ·have e2:decide (z<lo)=true:=decide_eq_true hc1
      have e3:decide (hi<z+v.f1+v.f2)=true:=decide_eq_true hc2
      go_wp2
      go_region_held3 (fun W'=>W'.cell? (ad1.add k)=some (.int .i64 z)∧W'.cell? ⟨(ad.add (k*4)).block,(ad.add (k*4)).off+3,none⟩=some (.slice (some ad3) f.f3.length c3)∧W'.cell? (ad3.add (m*3))=some (.string v.f0)∧W'.cell? ⟨(ad3.add (m*3)).block,(ad3.add (m*3)).off+1,none⟩=some (.int .i64 v.f1)∧W'.cell? ⟨(ad3.add (m*3)).block,(ad3.add (m*3)).off+2,none⟩=some (.int .i64 v.f2)) (go_keep) (fail)
      all_goals
       go_wp2
       go_quiet (fail)
       go_wp2
       go_quiet (fail)
       go_wp2
       go_roundw
       case rel=>exact ⟨k+1,z,z+v.f1+v.f2,rfl,rfl,by go_num,hlt,ends_more HE.out HF.out HZ.out ⟨by omega,by omega,by omega⟩ ⟨by omega,by omega⟩ (fun u hu=>by have:=HMAX.out u hu;omega),(by repeat (first | exact HB.out | apply pw_below_drewN | apply below_drew1 | apply below_alloc))⟩
       case measure=>simp [intOf];omega
     ·have e2:decide (z<lo)=true:=decide_eq_true hc1
      have e3:decide (hi<z+v.f1+v.f2)=false:=decide_eq_false hc2
      go_wp2
      go_region_held3 (fun W'=>W'.cell? (ad1.add k)=some (.int .i64 z)∧W'.cell? ⟨(ad.add (k*4)).block,(ad.add (k*4)).off+3,none⟩=some (.slice (some ad3) f.f3.length c3)∧W'.cell? (ad3.add (m*3))=some (.string v.f0)∧W'.cell? ⟨(ad3.add (m*3)).block,(ad3.add (m*3)).off+1,none⟩=some (.int .i64 v.f1)∧W'.cell? ⟨(ad3.add (m*3)).block,(ad3.add (m*3)).off+2,none⟩=some (.int .i64 v.f2)) (go_keep) (fail)
      all_goals
       go_wp2
       go_quiet (fail)
       go_wp2
       go_roundw
       case rel=>exact ⟨k+1,z,hi,rfl,rfl,by go_num,hlt,ends_more HE.out HF.out HZ.out ⟨by omega,by omega,by omega⟩ ⟨by omega,by omega⟩ (fun u hu=>by have:=HMAX.out u hu;omega),(by repeat (first | exact HB.out | apply pw_below_drewN | apply below_drew1 | apply below_alloc))⟩
       case measure=>simp [intOf];omega
    ·by_cases hc2:hi<z+v.f1+v.f2
     ·have e2:decide (z<lo)=false:=decide_eq_false hc1
      have e3:decide (hi<z+v.f1+v.f2)=true:=decide_eq_true hc2
      go_wp2
      go_region_held3 (fun W'=>W'.cell? (ad1.add k)=some (.int .i64 z)∧W'.cell? ⟨(ad.add (k*4)).block,(ad.add (k*4)).off+3,none⟩=some (.slice (some ad3) f.f3.length c3)∧W'.cell? (ad3.add (m*3))=some (.string v.f0)∧W'.cell? ⟨(ad3.add (m*3)).block,(ad3.add (m*3)).off+1,none⟩=some (.int .i64 v.f1)∧W'.cell? ⟨(ad3.add (m*3)).block,(ad3.add (m*3)).off+2,none⟩=some (.int .i64 v.f2)) (go_keep) (fail)
      all_goals
       go_wp2
       go_quiet (fail)
       go_wp2
       go_quiet (fail)
       go_wp2
       go_roundw
       case rel=>exact ⟨k+1,lo,z+v.f1+v.f2,rfl,rfl,by go_num,hlt,ends_more HE.out HF.out HZ.out ⟨by omega,by omega,by omega⟩ ⟨by omega,by omega⟩ (fun u hu=>by have:=HMAX.out u hu;omega),(by repeat (first | exact HB.out | apply pw_below_drewN | apply below_drew1 | apply below_alloc))⟩
       case measure=>simp [intOf];omega
     ·have e2:decide (z<lo)=false:=decide_eq_false hc1
      have e3:decide (hi<z+v.f1+v.f2)=false:=decide_eq_false hc2
      go_wp2
      go_region_held3 (fun W'=>W'.cell? (ad1.add k)=some (.int .i64 z)∧W'.cell? ⟨(ad.add (k*4)).block,(ad.add (k*4)).off+3,none⟩=some (.slice (some ad3) f.f3.length c3)∧W'.cell? (ad3.add (m*3))=some (.string v.f0)∧W'.cell? ⟨(ad3.add (m*3)).block,(ad3.add (m*3)).off+1,none⟩=some (.int .i64 v.f1)∧W'.cell? ⟨(ad3.add (m*3)).block,(ad3.add (m*3)).off+2,none⟩=some (.int .i64 v.f2)) (go_keep) (fail)
      all_goals
       go_wp2
       go_quiet (fail)
       go_wp2
       go_roundw
       case rel=>exact ⟨k+1,lo,hi,rfl,rfl,by go_num,hlt,ends_more HE.out HF.out HZ.out ⟨by omega,by omega,by omega⟩ ⟨by omega,by omega⟩ (fun u hu=>by have:=HMAX.out u hu;omega),(by repeat (first | exact HB.out | apply pw_below_drewN | apply below_drew1 | apply below_alloc))⟩
       case measure=>simp [intOf];omega
  ·obtain rfl:k=l.length:=by omega
   go_wp2
   go_ret2
   exact ⟨lo,hi,ends_all HE.out,rfl,HB.out⟩
theorem R_madeK {α:Type} (d:Kd α) (w:World) (e:Nat) (hs:0<d.sz):d.R e (w.alloc (.cells #[] e)) w.heap.size (fun _=>True) (.slice (some ⟨w.heap.size,0,none⟩) 0 0) [] :=
 ⟨fun _ _=>trivial,[],World.ownsRow_made w #[] 0 (Nat.le_refl _) (Nat.zero_le _) (by simp),by simp [Reps]⟩
set_option maxRecDepth 100000 in
set_option maxHeartbeats 4000000 in
theorem spec_runs_any (A:Option Addr) (c:Nat) (l:List Flight) (A1:Option Addr) (c1:Nat) (s:List Int) (sec:ByteArray) (w:World) (hr:Kd.C k45 w A l.length l) (hr1:Kd.C (Kd.int .i64) w A1 s.length s) :
  Calls Tryz.prog 30 #[.slice A l.length c, .slice A1 s.length c1, .string sec] w fun e w'=>∃ v,e = .returned v∧Kd.R k74 74 w' w.heap.size (fun _=>True) v (runsB l s sec)∧Below w.heap.size w w':=by
 have QS:=Lib.hid (fun W (h:Below w.heap.size w W)=>spec_slotsOk_any A c l A1 c1 s W (Kd.C_below hr h) (Kd.C_below hr1 h))
 have hb0:=Lib.hid ((Below.refl w.heap.size w).alloc (Nat.le_refl _) (.cells #[] 74))
 have hr0:=Lib.hid (R_madeK k74 w 74 (by decide))
 cases hs:slotsB l s with
 | false =>
  have HS:=Lib.hid hs
  clear hs
  go_enter Tryz.func30,Tryz.ntmps30
  go_wp2_with (first
   | (go_at_call 57;refine (QS.out _ hb0.out).mono ?_;rintro e w1 ⟨rfl,hb⟩;rw [HS.out])
   | go_in)
  go_ret
  refine ⟨_,rfl,?_,below_next hb0.out hb0.out.size hb⟩
  unfold runsB
  rw [if_neg (by rw [HS.out];decide)]
  exact Kd.R_below hr0.out hb
 | true =>
 have HS:=Lib.hid hs
 have HR:=Lib.hid hr
 have HR1:=Lib.hid hr1
 have QE:=Lib.hid (fun W (h:Below w.heap.size w W)=>spec_ends_any A c l A1 c1 s W (Kd.C_below hr h) (Kd.C_below hr1 h) hs)
 have QL:=Lib.hid (fun W (h:Below w.heap.size w W) t=>spec_l2Load_any A c l A1 c1 s sec t W (Kd.C_below hr h) (Kd.C_below hr1 h) hs)
 clear hs hr hr1
 go_enter Tryz.func30,Tryz.ntmps30
 go_wp2_with (first
  | (go_at_call 57;refine (QS.out _ hb0.out).mono ?_;rintro e w1 ⟨rfl,hb⟩;rw [HS.out];have hb1:=below_next hb0.out hb0.out.size hb)
  | (go_at_call 58;refine (QE.out _ hb1).mono ?_;rintro e w2 ⟨lo,hi,hends,rfl,hb2⟩;have hbw2:=below_next hb1 hb1.size hb2)
  | go_in)
 have hr2:=Lib.hid (Kd.R_below (Kd.R_below hr0.out hb) hb2)
 have HE:=Lib.hid hends
 obtain ⟨e0,e1,e2,e3,_⟩:=hends
 obtain ⟨lo,rfl⟩:=Int.eq_ofNat_of_zero_le e0
 go_loopw [7,10] (fun v vk wr=>∃ k:Nat,vk = .int .i64 k∧lo≤k∧(k=lo∨(k:Int)≤hi+1)∧Hid (Kd.R k74 74 wr w.heap.size (fun _=>True) v (runsN l s sec k))∧Hid (Below w.heap.size w wr)) (fun _ vk _=>(hi+1-intOf vk).toNat)
 case atStart =>
  refine ⟨lo,rfl,Nat.le_refl _, .inl rfl,?_,hbw2⟩
  have t:=hr2.out
  rw [← runsN_first HS.out HE.out] at t
  exact t
 case round =>
  obtain ⟨k,rfl,hk,hkh,HO,HB⟩:=hrel
  have hst:=Lib.hid (runsN_step l s sec k)
  have hlen:=runsN_len l s sec k
  by_cases hlt:(k:Int)≤hi
  ·have j1:IntKind.i64.wrap ((k:Int)-1)=(k:Int)-1:=IntWalk.i64_in _ (by omega)
   obtain ⟨q,hq⟩:∃ q:Int,q=ldN l s sec k:=⟨_,rfl⟩
   have QLk:Hid (Calls Tryz.prog 59 #[.slice A l.length c, .slice A1 s.length c1, .string sec, .int .i64 k] wr fun e w'=>e = .returned (.int .i64 q)∧Below wr.heap.size wr w'):=by rw [hq];exact QL.out wr HB.out k
   rw [← hq] at hst
   by_cases hz:q=0
   ·have z1:decide (q=0)=true:=decide_eq_true hz
    have z2:(q == 0)=true:=by simp [hz]
    obtain ⟨Ao,co,rfl⟩:=Kd.R_slice HO.out
    go_wp2_with (first
     | (go_at_call 59;refine QLk.out.mono ?_;rintro e w4 ⟨rfl,hb4⟩;have HO4:=Lib.hid (Kd.R_below HO.out hb4);have HB4:=Lib.hid (below_next HB.out HB.out.size hb4))
     | go_in)
    go_roundw
    case rel=>exact ⟨k+1,by go_num,by omega, .inr (by omega),by show Kd.R _ _ _ _ _ _ _;rw [hst.out,if_pos hz];exact HO4.out,HB4.out⟩
    case measure=>simp [intOf];omega
   ·have z1:decide (q=0)=false:=decide_eq_false hz
    have z2:(q == 0)=false:=by simp [hz]
    obtain ⟨o,ho⟩:∃ o,o=runsN l s sec k:=⟨_,rfl⟩
    rw [← ho] at HO hst hlen
    clear ho hq
    obtain ⟨Ao,co,rfl⟩:=Kd.R_slice HO.out
    by_cases hm:o.length=0
    ·have HJ:Hid (joinB o k q=false):=by show _=_;simp [joinB,hm]
     have HL:=Lib.hid hm
     rw [hm]
     rw [hm] at HO
     go_wp2_with (first
      | (go_at_call 59;refine QLk.out.mono ?_;rintro e w4 ⟨rfl,hb4⟩;have HO4:=Lib.hid (Kd.R_below HO.out hb4);have HB4:=Lib.hid (below_next HB.out HB.out.size hb4);have hwl:=HB4.out.size)
      | (at_builtin;refine Kd.R_append k74 (w0:=w) w.heap.size rfl _ _ 65 74 (.agg #[.int .i64 0, .int .i64 0, .int .i64 0]) 24 rfl Tryz.underlying65 infoRun rfl (by decide) (by decide) (.slice Ao 0 co) o (⟨k,k,q⟩:Run) [.int .i64 k, .int .i64 k, .int .i64 q] (fun _=>True) (fun _=>False) rfl rfl (k74_mkM _ _ _ (⟨k,k,q⟩:Run)) (fun _ h=>h.elim) (fun _ _=>trivial) HO4.out HB4.out hwl (by omega) ?_;intro v1 w5 ho5 hb5 hg5 hat5;have HO5:=Lib.hid ho5;have HB5:=Lib.hid hb5;clear ho5 hb5 hg5 hat5)
      | go_in)
     go_roundw
     case rel=>exact ⟨k+1,by go_num,by omega, .inr (by omega),by show Kd.R _ _ _ _ _ _ _;rw [hst.out,if_neg hz];unfold stepRun;rw [if_neg (by rw [HJ.out];decide)];exact HO5.out,HB5.out⟩
     case measure=>simp [intOf];omega
    ·obtain ⟨m,hm1⟩:∃ m,o.length=m+1:=⟨o.length-1,by omega⟩
     obtain ⟨g,cp,hform,hg0,hg1,_⟩:=Kd.R_form HO.out (by omega)
     injection hform with ea en ec
     subst ea ec
     have jl:lastR o=o.getD m ⟨0,0,0⟩:=by unfold lastR;rw [hm1];rfl
     obtain ⟨y,hy⟩:∃ y,y=o.getD m ⟨0,0,0⟩:=⟨_,rfl⟩
     rw [hm1] at HO ⊢
     rw [← hy] at jl
     have ra:Hid (∀ W:World,Below wr.heap.size wr W→W.cell? ⟨g,m*3,none⟩=some (.int .i64 y.f0)∧W.cell? ⟨g,m*3+1,none⟩=some (.int .i64 y.f1)∧W.cell? ⟨g,m*3+2,none⟩=some (.int .i64 y.f2)∧W.frozen? ⟨g,m*3+1,none⟩=false):=fun W hW=>by
      rw [hy];exact runAt (Kd.R_below HO.out hW) m (Nat.lt_succ_self m)
     have HY:=Lib.hid hy
     clear hy
     have jA:IntKind.i64.wrap (m:Int)=(m:Int):=IntWalk.i64_in _ (by omega)
     have jB:IntKind.i64.wrap ((m:Int)+1-1)=(m:Int):=by rw [show (m:Int)+1-1=m by omega];exact jA
     have jC:IntKind.i64.wrap (((m+1:Nat):Int)-1)=(m:Int):=by rw [show ((m+1:Nat):Int)-1=m by omega];exact jA
     have jD:(0:Int)≤(m:Int):=by omega
     have jE:(m:Int)<((m+1:Nat):Int):=by omega
     have jF:(m:Int)<(m:Int)+1:=by omega
     by_cases c1:y.f1=(k:Int)-1
     ·have c1a:decide (y.f1=(k:Int)-1)=true:=decide_eq_true c1
      have c1b:(y.f1 == (k:Int)-1)=true:=by simp [c1]
      by_cases c2:y.f2=q
      ·have c2a:decide (y.f2=q)=true:=decide_eq_true c2
       have c2b:(y.f2 == q)=true:=by simp [c2]
       have HJ:Hid (joinB o k q=true):=by show _=_;unfold joinB;rw [jl,decide_eq_true c1,decide_eq_true c2,decide_eq_true (by omega)];rfl
       have HC:=Lib.hid (⟨c1,c2⟩:y.f1=(k:Int)-1∧y.f2=q)
       clear c1 c2
       go_wp2_with (first
        | (go_at_call 59;refine QLk.out.mono ?_;rintro e w4 ⟨rfl,hb4⟩;have HO4:=Lib.hid (Kd.R_below HO.out hb4);have HB4:=Lib.hid (below_next HB.out HB.out.size hb4);have hwl:=HB4.out.size;obtain ⟨x0,x1,x2,xf⟩:=ra.out w4 hb4)
        | go_in)
       refine ⟨⟨k+1,by go_num,by omega, .inr (by omega),?_,HB4.out.setCell (by show _≤g;omega) _⟩,by simp [intOf];omega⟩
       show Kd.R _ _ _ _ _ _ _
       rw [hst.out,if_neg hz]
       unfold stepRun
       rw [if_pos HJ.out,jl,hm1,Nat.add_sub_cancel,HY.out]
       exact R_setTo HO4.out m (Nat.lt_succ_self m) k
      ·have c2a:decide (y.f2=q)=false:=decide_eq_false c2
       have c2b:(y.f2 == q)=false:=by simp [c2]
       have HJ:Hid (joinB o k q=false):=by show _=_;unfold joinB;rw [jl,decide_eq_false c2];simp
       go_wp2_with (first
        | (go_at_call 59;refine QLk.out.mono ?_;rintro e w4 ⟨rfl,hb4⟩;have HO4:=Lib.hid (Kd.R_below HO.out hb4);have HB4:=Lib.hid (below_next HB.out HB.out.size hb4);have hwl:=HB4.out.size;obtain ⟨x0,x1,x2,xf⟩:=ra.out w4 hb4)
        | (at_builtin;refine Kd.R_append k74 (w0:=w) w.heap.size rfl _ _ 65 74 (.agg #[.int .i64 0, .int .i64 0, .int .i64 0]) 24 rfl Tryz.underlying65 infoRun rfl (by decide) (by decide) (.slice (some ⟨g,0,none⟩) (m+1) co) o (⟨k,k,q⟩:Run) [.int .i64 k, .int .i64 k, .int .i64 q] (fun _=>True) (fun _=>False) rfl rfl (k74_mkM _ _ _ (⟨k,k,q⟩:Run)) (fun _ h=>h.elim) (fun _ _=>trivial) HO4.out HB4.out hwl (by omega) ?_;intro v1 w5 ho5 hb5 hg5 hat5;have HO5:=Lib.hid ho5;have HB5:=Lib.hid hb5;clear ho5 hb5 hg5 hat5)
        | go_in)
       go_roundw
       case rel=>exact ⟨k+1,by go_num,by omega, .inr (by omega),by show Kd.R _ _ _ _ _ _ _;rw [hst.out,if_neg hz];unfold stepRun;rw [if_neg (by rw [HJ.out];decide)];exact HO5.out,HB5.out⟩
       case measure=>simp [intOf];omega
     ·have c1a:decide (y.f1=(k:Int)-1)=false:=decide_eq_false c1
      have c1b:(y.f1 == (k:Int)-1)=false:=by simp [c1]
      have HJ:Hid (joinB o k q=false):=by show _=_;unfold joinB;rw [jl,decide_eq_false c1];simp
      go_wp2_with (first
       | (go_at_call 59;refine QLk.out.mono ?_;rintro e w4 ⟨rfl,hb4⟩;have HO4:=Lib.hid (Kd.R_below HO.out hb4);have HB4:=Lib.hid (below_next HB.out HB.out.size hb4);have hwl:=HB4.out.size;obtain ⟨x0,x1,x2,xf⟩:=ra.out w4 hb4)
       | (at_builtin;refine Kd.R_append k74 (w0:=w) w.heap.size rfl _ _ 65 74 (.agg #[.int .i64 0, .int .i64 0, .int .i64 0]) 24 rfl Tryz.underlying65 infoRun rfl (by decide) (by decide) (.slice (some ⟨g,0,none⟩) (m+1) co) o (⟨k,k,q⟩:Run) [.int .i64 k, .int .i64 k, .int .i64 q] (fun _=>True) (fun _=>False) rfl rfl (k74_mkM _ _ _ (⟨k,k,q⟩:Run)) (fun _ h=>h.elim) (fun _ _=>trivial) HO4.out HB4.out hwl (by omega) ?_;intro v1 w5 ho5 hb5 hg5 hat5;have HO5:=Lib.hid ho5;have HB5:=Lib.hid hb5;clear ho5 hb5 hg5 hat5)
       | go_in)
      go_roundw
      case rel=>exact ⟨k+1,by go_num,by omega, .inr (by omega),by show Kd.R _ _ _ _ _ _ _;rw [hst.out,if_neg hz];unfold stepRun;rw [if_neg (by rw [HJ.out];decide)];exact HO5.out,HB5.out⟩
      case measure=>simp [intOf];omega
  ·have hN:runsN l s sec k=runsB l s sec:=runsN_last HS.out HE.out k (by omega)
   have t:=HO.out
   rw [hN] at t
   obtain ⟨Ao,co,rfl⟩:=Kd.R_slice t
   go_wp2
   go_ret
   exact ⟨_,rfl,t,HB.out⟩
end Go.Proofs.YthcpbojmalgdbaaGreatDoor.Q
namespace Go.Proofs.YthcpbojmalgdbaaGreatDoor.Q
open Go.RowKit Go.Proofs.YthcpbojmalgdbaaGreatDoorW.PrintWords Go.Proofs.YthcpbojmalgdbaaGreatDoor.Core Go.Maps Go.WideAt
theorem sortL_sortedR (xs:List Int):(sortL xs).Pairwise (· ≤ ·):=by
 have h:=List.pairwise_mergeSort (le:=fun x y=>decide (x≤y)) (fun a b c h1 h2=>by simp at h1 h2 ⊢;omega) (fun a b=>by simp;omega) xs
 exact h.imp (fun h=>by simpa using h)
theorem ld_cnt {l:List Flight} {s:List Int} (hs:slotsB l s=true) (sec:ByteArray) (t:Int):ldN l s sec t=(cntTo l s sec t l.length:Int):=by
 unfold ldN
 rw [cnt_load (flightsB_parts (slotsB_parts hs).1).2.1 s sec t]
theorem keys_ticks {l:List Flight} {s:List Int} {sec:ByteArray} {D:DataW Unit} {ys:List Int} (hs:slotsB l s=true) (hI:IsMap D) (hD:∀ t,D.atKey (.int .i64 t) (.lit (.int .i64 0)) = .lit (.int .i64 ((cntTo l s sec t l.length:Nat):Int))∧cntTo l s sec t l.length≤1200)
  (hP:∀ t:Int,Maps.has D (.int .i64 t)=true→cntTo l s sec t l.length≠0) (hn:ys.Nodup) (hm:∀ t:Int,t∈ys↔Maps.has D (.int .i64 t)=true):sortL ys=ticksTo (someB l s sec) 10300:=by
 have hp:(sortL ys).Perm ys:=List.mergeSort_perm _ _
 have he:=ends_ex hs
 refine sorted_ext _ _ ?_ (ticks_sorted _ _) (fun x => ?_)
 ·have hn':(sortL ys).Nodup:=hp.nodup_iff.2 hn
  exact ((sortL_sortedR ys).and hn').imp (fun h=>by have h1:=h.1;have h2:=h.2;omega)
 ·rw [hp.mem_iff,hm,ticks_mem]
  constructor
  ·intro h
   have h2:=hP x h
   have h3:someB l s sec x=true:=by
    unfold someB
    rw [ld_cnt hs,decide_eq_true_eq]
    omega
   have:=someB_in hs he h3
   exact ⟨by have:=he.1;omega,by have:=he.2.2.2.1;omega,h3⟩
  ·rintro ⟨_,_,h⟩
   cases hh:Maps.has D (.int .i64 x) with
   | true=>rfl
   | false =>
    have:=no_key hI hD hh
    unfold someB at h
    rw [ld_cnt hs,decide_eq_true_eq] at h
    omega
def TookOk (D:DataW Unit) (left:Lit→Bool) (ys:List Int):Prop:=ys.Nodup∧∀ t:Int,t∈ys↔Maps.has D (.int .i64 t)=true∧left (.int .i64 t)=false
theorem took_start (D:DataW Unit):TookOk D (Maps.has D) []:=⟨List.nodup_nil,fun t=>⟨fun h=>(by cases h),fun h=>(by obtain ⟨h1,h2⟩:=h;rw [h1] at h2;cases h2)⟩⟩
theorem took_step {D:DataW Unit} {left:Lit→Bool} {ys:List Int} {x:Int} (h:TookOk D left ys) (hh:Maps.has D (.int .i64 x)=true) (hx:left (.int .i64 x)=true):TookOk D (fun z=>left z && !z.sameKey (.int .i64 x)) (ys++[x]):=by
 refine ⟨List.nodup_append.2 ⟨h.1,by simp,?_⟩,fun t => ?_⟩
 ·intro a ha b hb e
  rw [List.mem_singleton] at hb
  rw [e,hb] at ha
  have:=((h.2 x).1 ha).2
  rw [hx] at this;cases this
 ·rw [List.mem_append,h.2 t,List.mem_singleton]
  constructor
  ·rintro (⟨h1,h2⟩ | rfl)
   ·exact ⟨h1,by simp [h2]⟩
   ·refine ⟨hh,?_⟩
    have:(Lit.int .i64 t).sameKey (.int .i64 t)=true:=WideAt.sameKey_self trivial
    simp [this]
  ·rintro ⟨h1,h2⟩
   cases hl:left (.int .i64 t) with
   | false=>exact .inl ⟨h1,rfl⟩
   | true =>
    simp only [hl,Bool.true_and,Bool.not_eq_false'] at h2
    have e:=WideAt.sameKey_eq h2
    injection e with _ e
    exact .inr e
theorem has_of_at {D:DataW Unit} {x c:Int} (h:∀ zd,D.atKey (.int .i64 x) zd = .lit (.int .i64 c)):Maps.has D (.int .i64 x)=true:=by
 cases hh:Maps.has D (.int .i64 x) with
 | true=>rfl
 | false =>
  have h1:=atKey_of_not_has hh (.lit (.int .i64 (c+1)):DataW Unit)
  rw [h] at h1
  injection h1 with h1
  injection h1 with _ h1
  omega
set_option maxRecDepth 100000 in
set_option maxHeartbeats 4000000 in
theorem impl_runs_any (A:Option Addr) (c:Nat) (l:List Flight) (A1:Option Addr) (c1:Nat) (s:List Int) (sec:ByteArray) (w:World) (hr:Kd.C k45 w A l.length l) (hr1:Kd.C (Kd.int .i64) w A1 s.length s) :
  Calls Tryz.prog 41 #[.slice A l.length c, .slice A1 s.length c1, .string sec] w fun e w'=>∃ v,e = .returned v∧Kd.R k74 74 w' w.heap.size (fun _=>True) v (runsB l s sec)∧Below w.heap.size w w':=by
 have QS:=Lib.hid (impl_slotsOk_any A c l A1 c1 s w hr hr1)
 cases hs:slotsB l s with
 | false =>
  have HS:=Lib.hid hs
  clear hs
  go_enter Tryz.func41,Tryz.ntmps41
  go_wp2_with (first
   | (go_at_call 81;refine QS.out.mono ?_;rintro e w1 ⟨rfl,hb⟩;rw [HS.out])
   | go_in)
  go_ret
  refine ⟨_,rfl,?_,hb⟩
  unfold runsB
  rw [if_neg (by rw [HS.out];decide)]
  exact Kd.R_nil _ _ _ _ _
 | true =>
 have HS:=Lib.hid hs
 have QL:=Lib.hid (fun W (h:Below w.heap.size w W)=>impl_loads2_any A c l A1 c1 s sec W (Kd.C_below hr h) (Kd.C_below hr1 h) hs)
 clear hs hr hr1
 go_enter Tryz.func41,Tryz.ntmps41
 go_wp2_with (first
  | (go_at_call 81;refine QS.out.mono ?_;rintro e w1 ⟨rfl,hb⟩;rw [HS.out])
  | (go_at_call 82;refine (QL.out _ hb).mono ?_;rintro e w2 ⟨rfl,⟨D,hown,hIs,hD,hPos⟩,hb2⟩;have HD:=Lib.hid hD;have HPos:=Lib.hid hPos;have hBlt:=hown.lt;clear hD hPos)
  | (at_range;refine wpList_range_own _ rfl _ 106 rfl 3 3 lawInt Tryz.underlying106 _ w1.heap.size _ _ rfl (hown.alloc _) ?_;intro w0 hrg0 hg0 hs0)
  | go_in)
 go_frame
 have hsz:(w2.alloc (.cells #[] 3)).heap.size=w2.heap.size+1:=by simp
 rw [hsz] at hrg0 hs0 ⊢
 have hbw2:=below_next hb hb.size hb2
 have hwsz:=hbw2.size
 have hb0:Below w.heap.size w w0:=(hbw2.alloc hwsz _).grown hg0 (by rw [hsz];omega) (fun j hj=>by cases hj)
 have hR0:Kd.R (Kd.int .i64) 3 w0 w.heap.size (fun k=>k≠w1.heap.size∧k≠w2.heap.size+1) (.slice (some ⟨w2.heap.size,0,none⟩) 0 0) [] :=
  Kd.R_grown (Kd.R_lower (Kd.R_mono (Kd.R_bound (R_made w2 3)) (fun k hk=>⟨by have:=hk.2.1;omega,by have:=hk.2.2.1;rw [hsz] at this;omega⟩)) hwsz) hg0 (fun k hk h=>by cases h)
 have hC0:=Lib.hid hrg0.owns.size_le
 obtain ⟨N0,hN0⟩:∃ n,n=Maps.size D:=⟨_,rfl⟩
 rw [← hN0] at hrg0 hC0
 have HR0:=Lib.hid hR0
 have HB0:=Lib.hid hb0
 clear hown hg0 hb2 hbw2 hb0 hR0
 go_loopw [8] (fun v wq=>∃ (left:Lit→Bool) (cnt:Nat) (ys:List Int),wq.ranges Tryz.prog 3 (plainElem Tryz.prog 3) w1.heap.size (w2.heap.size+1) 1200 D left cnt∧Hid (TookOk D left ys)∧ys.length+cnt≤N0 ∧
   Hid (Kd.R (Kd.int .i64) 3 wq w.heap.size (fun k=>k≠w1.heap.size∧k≠w2.heap.size+1) v ys)∧Hid (Below w.heap.size w wq)) (fun _ wq=>wq.rangeLeft w1.heap.size (w2.heap.size+1))
 case atStart=>exact ⟨_,_,[],hrg0,took_start D,by simp,HR0.out,HB0.out⟩
 case round =>
  obtain ⟨left,cnt,ys,hrg,hT,hle,HO,HB⟩:=hrel
  clear hrg0 HR0 HB0
  have hrl:=hrg.lt
  go_wp2_with (first
   | (at_next;refine wpList_next_ranges_ii _ rfl _ rfl 3 3 .i64 .i64 lawInt Tryz.underlying3 Tryz.underlying3 _ (w2.heap.size+1) _ _ _ _ rfl hrg ?_ ?_)
   | go_in)
  ·intro hc0 hl0
   have hkt:=keys_ticks HS.out hIs HD.out HPos.out hT.out.1 (fun t=>⟨fun h=>((hT.out.2 t).1 h).1,fun h=>(hT.out.2 t).2 ⟨h,hl0 _⟩⟩)
   obtain ⟨ts,hts⟩:∃ ts,ts=sortL ys:=⟨_,rfl⟩
   have hlen:ts.length=ys.length:=by rw [hts,sortL_length]
   rw [← hts] at hkt
   have HKT:=Lib.hid hkt
   have HTS:=Lib.hid hts
   have hn0:=hC0.out
   clear hkt hts hc0 hl0
   have hb1:some w1.heap.size≠u8.ownBlock:=fun e=>(HO.out.1 _ e.symm).1 rfl
   have hown:=Lib.hid hrg.owns
   obtain ⟨A8,c8,rfl⟩:=Kd.R_slice HO.out
   go_wp2_with (first
    | (go_at_call 83;refine (sortInts_any (.slice A8 ys.length c8) ys wr w.heap.size (by omega) (Kd.R_mono HO.out (fun _ _=>trivial)) HB.out.size).mono ?_;rintro e w6 ⟨rfl,ho6,hb6,hg6⟩)
    | go_in)
   have HB6:=Lib.hid (HB.out.grown hg6 HB.out.size (fun j hj=>Kd.R_base HO.out j hj))
   have hown6:=Lib.hid (hown.out.kept hg6 hb1)
   have hw6:=HB6.out.size
   have hlt6:w1.heap.size<w6.heap.size:=hown6.out.lt
   rw [← HTS.out] at ho6
   have HT6:=Lib.hid (Kd.R_mono (Kd.R_bound ho6) (fun j hj=>hj.2.2.1))
   have hr6:=Lib.hid (R_madeK k74 w6 74 (by decide))
   clear ho6 hb6 hg6 hown hrg HO HB
   go_loopw [10,38] (fun v vk wq=>∃ k:Nat,vk = .int .i64 k∧k≤ts.length∧Hid (Kd.R k74 74 wq w6.heap.size (fun _=>True) v (runsOf (ldN l s sec) (ts.take k))) ∧
     Hid (Kd.R (Kd.int .i64) 3 wq w.heap.size (fun j=>j<w6.heap.size) (.slice A8 ys.length c8) ts)∧Hid (wq.ownsMap Tryz.prog 3 (plainElem Tryz.prog 3) w1.heap.size 1200 D)∧Hid (Below w.heap.size w wq)∧w6.heap.size≤wq.heap.size) (fun _ vk _=>ts.length-(intOf vk).toNat)
   case atStart=>exact ⟨0,rfl,Nat.zero_le _,hr6.out,Kd.R_alloc HT6.out _,hown6.out.alloc _,HB6.out.alloc hw6 _,by simp⟩
   case round =>
    clear hr6 HT6 hown6 HB6
    obtain ⟨k,rfl,hk,HO,HT,HM,HB,hsz⟩:=hrel
    by_cases hlt:k<ts.length
    ·obtain ⟨hk8,hc8,hC8⟩:=Kd.R_reads' HT.out
     have hCt:Kd.C (Kd.int .i64) wr A8 ts.length ts:=hC8
     obtain ⟨ad,t,rfl,ht,c1o⟩:=intAt hCt k hlt
     obtain ⟨t0,t1,t2⟩:=(ticks_mem _ _ _).1 (show t∈ticksTo (someB l s sec) 10300 by rw [← HKT.out];exact List.mem_of_getElem? ht)
     obtain ⟨q,hq⟩:∃ q,q=ldN l s sec t:=⟨_,rfl⟩
     have hst:Hid (runsOf (ldN l s sec) (ts.take (k+1))=stepRun (runsOf (ldN l s sec) (ts.take k)) t q):=by show _=_;rw [List.take_add_one,ht,Option.toList_some,runsOf_snoc,hq]
     have hlook:∀ W:World,W.heap=wr.heap→(Instr.lookup 106 (.map (some w1.heap.size)) (.int .i64 t) false).run Tryz.prog W = .ok (.int .i64 q) W:=fun W hW=>by
      have hown:W.ownsMap Tryz.prog 3 (plainElem Tryz.prog 3) w1.heap.size 1200 D:=by
       have h:=HM.out
       unfold World.ownsMap at h ⊢
       rw [hW];exact h
      obtain ⟨cc,hrun,hat,_⟩:=hown.lookup_int lawInt Tryz.underlying106 Tryz.underlying3 (zeroInt W) (keyOf_int_mk Tryz.underlying3 (WalkArith.wf_i64 (by omega)):keyOf Tryz.prog 3 (.int .i64 t)=some (.int .i64 t))
      rw [(HD.out t).1] at hat
      injection hat with hat
      injection hat with _ hat
      rw [hrun,hq,ld_cnt HS.out,hat]
     have hl0:=hlook wr rfl
     have hl1:=hlook wr.drew rfl
     have hl2:=fun n=>hlook (wr.drewN n) rfl
     have j0:(k:Int)<ts.length:=by omega
     have j0':(k:Int)<(ys.length:Nat):=by omega
     have jt:IntKind.i64.wrap (t-1)=t-1:=IntWalk.i64_in _ (by omega)
     obtain ⟨o,ho⟩:∃ o,o=runsOf (ldN l s sec) (ts.take k):=⟨_,rfl⟩
     have hol:o.length≤2000:=by rw [ho];have:=runsOf_len (ldN l s sec) (ts.take k);rw [List.length_take] at this;omega
     rw [← ho] at HO hst
     obtain ⟨Ao,co,rfl⟩:=Kd.R_slice HO.out
     have HOB:Hid (∀ j,(Value.slice Ao o.length co).ownBlock=some j→w6.heap.size≤j):=fun j hj=>Kd.R_base HO.out j hj
     have HQ:=Lib.hid hq
     have HTk:=Lib.hid ht
     clear hlook ho hq ht t2 hCt hC8 hk8 hlen
     by_cases hm:o.length=0
     ·have HJ:Hid (joinB o t q=false):=by show _=_;simp [joinB,hm]
      rw [hm] at HO HOB ⊢
      go_wp2
      go_quiet (fail)
      go_wp2_with (first
       | (at_builtin;refine Kd.R_append k74 (w0:=wr) w6.heap.size rfl _ _ 65 74 (.agg #[.int .i64 0, .int .i64 0, .int .i64 0]) 24 rfl Tryz.underlying65 infoRun rfl (by decide) (by decide) (.slice Ao 0 co) o (⟨t,t,q⟩:Run) [.int .i64 t, .int .i64 t, .int .i64 q] (fun _=>True) (fun _=>False) rfl rfl (k74_mkM _ _ _ (⟨t,t,q⟩:Run)) (fun _ h=>h.elim) (fun _ _=>trivial) (Kd.R_drewN HO.out _) (pw_below_drewN (Below.refl _ _) _) hsz (by omega) ?_;intro v1 w7 ho7 hb7 hg7 hat7;have HO7:=Lib.hid ho7;have HG7:=Lib.hid hg7;clear ho7 hb7 hg7 hat7)
       | go_in)
      go_roundw
      case rel =>
       refine ⟨k+1,by go_num,hlt,?_,Kd.R_grown (Kd.R_drewN HT.out _) HG7.out (fun j hj e=>by have:=HOB.out j e.symm;omega),World.ownsMap.kept (w:=wr.drewN _) HM.out HG7.out (fun e=>by have:=HOB.out _ e.symm;omega),(pw_below_drewN HB.out _).grown HG7.out HB.out.size (fun j hj=>by have:=HOB.out j hj;omega),Nat.le_trans hsz HG7.out.size⟩
       show Kd.R _ _ _ _ _ _ _
       rw [hst.out]
       unfold stepRun
       rw [if_neg (by rw [HJ.out];decide)]
       exact HO7.out
      case measure=>simp [intOf];omega
     ·obtain ⟨m,hm1⟩:∃ m,o.length=m+1:=⟨o.length-1,by omega⟩
      obtain ⟨g,cp,hform,hg0,hg1,_⟩:=Kd.R_form HO.out (by omega)
      injection hform with ea en ec
      subst ea ec
      have jl:lastR o=o.getD m ⟨0,0,0⟩:=by unfold lastR;rw [hm1];rfl
      obtain ⟨y,hy⟩:∃ y,y=o.getD m ⟨0,0,0⟩:=⟨_,rfl⟩
      rw [hm1] at HO HOB ⊢
      rw [← hy] at jl
      obtain ⟨x0,x1,x2,xf⟩:=runAt HO.out m (Nat.lt_succ_self m)
      rw [← hy] at x0 x1 x2
      have HY:=Lib.hid hy
      clear hy
      have jA:IntKind.i64.wrap (m:Int)=(m:Int):=IntWalk.i64_in _ (by omega)
      have jB:IntKind.i64.wrap ((m:Int)+1-1)=(m:Int):=by rw [show (m:Int)+1-1=m by omega];exact jA
      have jC:IntKind.i64.wrap (((m+1:Nat):Int)-1)=(m:Int):=by rw [show ((m+1:Nat):Int)-1=m by omega];exact jA
      have jD:(0:Int)≤(m:Int):=by omega
      have jE:(m:Int)<((m+1:Nat):Int):=by omega
      have jF:(m:Int)<(m:Int)+1:=by omega
      have HG:=Lib.hid (HOB.out g rfl)
      by_cases c1:y.f1=t-1
      ·have c1a:decide (y.f1=t-1)=true:=decide_eq_true c1
       have c1b:(y.f1 == t-1)=true:=by simp [c1]
       by_cases c2:y.f2=q
       ·have c2a:decide (y.f2=q)=true:=decide_eq_true c2
        have c2b:(y.f2 == q)=true:=by simp [c2]
        have HJ:Hid (joinB o t q=true):=by show _=_;unfold joinB;rw [jl,decide_eq_true c1,decide_eq_true c2,decide_eq_true (by omega)];rfl
        clear c1 c2
        go_wp2
        go_quiet (fail)
        go_wp2
        go_roundw
        case rel =>
         have hg:=HG.out
         refine ⟨k+1,by go_num,hlt,?_,Kd.R_far (Kd.R_drewN HT.out _) (fun j hj=>by show j≠g;omega) _,World.ownsMap.setCell (w:=wr.drewN _) HM.out (by show w1.heap.size≠g;omega) _,(pw_below_drewN HB.out _).setCell (by show _≤g;omega) _,by simpa using hsz⟩
         show Kd.R _ _ _ _ _ _ _
         rw [hst.out]
         unfold stepRun
         rw [if_pos HJ.out,jl,hm1,Nat.add_sub_cancel,HY.out]
         exact R_setTo (Kd.R_drewN HO.out _) m (Nat.lt_succ_self m) t
        case measure=>simp [intOf];omega
       ·have c2a:decide (y.f2=q)=false:=decide_eq_false c2
        have c2b:(y.f2 == q)=false:=by simp [c2]
        have HJ:Hid (joinB o t q=false):=by show _=_;unfold joinB;rw [jl,decide_eq_false c2];simp
        go_wp2
        go_quiet (fail)
        go_wp2_with (first
         | (at_builtin;refine Kd.R_append k74 (w0:=wr) w6.heap.size rfl _ _ 65 74 (.agg #[.int .i64 0, .int .i64 0, .int .i64 0]) 24 rfl Tryz.underlying65 infoRun rfl (by decide) (by decide) (.slice (some ⟨g,0,none⟩) (m+1) co) o (⟨t,t,q⟩:Run) [.int .i64 t, .int .i64 t, .int .i64 q] (fun _=>True) (fun _=>False) rfl rfl (k74_mkM _ _ _ (⟨t,t,q⟩:Run)) (fun _ h=>h.elim) (fun _ _=>trivial) (Kd.R_drewN HO.out _) (pw_below_drewN (Below.refl _ _) _) hsz (by omega) ?_;intro v1 w7 ho7 hb7 hg7 hat7;have HO7:=Lib.hid ho7;have HG7:=Lib.hid hg7;clear ho7 hb7 hg7 hat7)
         | go_in)
        go_roundw
        case rel =>
         refine ⟨k+1,by go_num,hlt,?_,Kd.R_grown (Kd.R_drewN HT.out _) HG7.out (fun j hj e=>by have:=HOB.out j e.symm;omega),World.ownsMap.kept (w:=wr.drewN _) HM.out HG7.out (fun e=>by have:=HOB.out _ e.symm;omega),(pw_below_drewN HB.out _).grown HG7.out HB.out.size (fun j hj=>by have:=HOB.out j hj;omega),Nat.le_trans hsz HG7.out.size⟩
         show Kd.R _ _ _ _ _ _ _
         rw [hst.out]
         unfold stepRun
         rw [if_neg (by rw [HJ.out];decide)]
         exact HO7.out
        case measure=>simp [intOf];omega
      ·have c1a:decide (y.f1=t-1)=false:=decide_eq_false c1
       have c1b:(y.f1 == t-1)=false:=by simp [c1]
       have HJ:Hid (joinB o t q=false):=by show _=_;unfold joinB;rw [jl,decide_eq_false c1];simp
       go_wp2
       go_quiet (fail)
       go_wp2_with (first
        | (at_builtin;refine Kd.R_append k74 (w0:=wr) w6.heap.size rfl _ _ 65 74 (.agg #[.int .i64 0, .int .i64 0, .int .i64 0]) 24 rfl Tryz.underlying65 infoRun rfl (by decide) (by decide) (.slice (some ⟨g,0,none⟩) (m+1) co) o (⟨t,t,q⟩:Run) [.int .i64 t, .int .i64 t, .int .i64 q] (fun _=>True) (fun _=>False) rfl rfl (k74_mkM _ _ _ (⟨t,t,q⟩:Run)) (fun _ h=>h.elim) (fun _ _=>trivial) (Kd.R_drewN HO.out _) (pw_below_drewN (Below.refl _ _) _) hsz (by omega) ?_;intro v1 w7 ho7 hb7 hg7 hat7;have HO7:=Lib.hid ho7;have HG7:=Lib.hid hg7;clear ho7 hb7 hg7 hat7)
        | go_in)
       go_roundw
       case rel =>
        refine ⟨k+1,by go_num,hlt,?_,Kd.R_grown (Kd.R_drewN HT.out _) HG7.out (fun j hj e=>by have:=HOB.out j e.symm;omega),World.ownsMap.kept (w:=wr.drewN _) HM.out HG7.out (fun e=>by have:=HOB.out _ e.symm;omega),(pw_below_drewN HB.out _).grown HG7.out HB.out.size (fun j hj=>by have:=HOB.out j hj;omega),Nat.le_trans hsz HG7.out.size⟩
        show Kd.R _ _ _ _ _ _ _
        rw [hst.out]
        unfold stepRun
        rw [if_neg (by rw [HJ.out];decide)]
        exact HO7.out
       case measure=>simp [intOf];omega
    ·obtain rfl:k=ts.length:=by omega
     have t:=HO.out
     rw [List.take_length,HKT.out] at t
     obtain ⟨Ao,co,rfl⟩:=Kd.R_slice t
     go_wp2
     go_ret
     refine ⟨_,rfl,?_,HB.out⟩
     unfold runsB
     rw [if_pos HS.out]
     exact Kd.R_lower t hw6
  ·intro y cc w5 cnt1 hwx hwc hlx hat hrg1 hlt hg1 hs1 hen
   clear hs1
   have hh:=has_of_at hat
   have HO5:=Lib.hid (Kd.R_grown HO.out hg1 (fun j hj h=>by cases h;exact hj.2 rfl))
   have HB5:=Lib.hid (HB.out.grown hg1 (by have:=HB.out.size;omega) (fun j hj=>by cases hj;omega))
   have hT':=Lib.hid (took_step hT.out hh hlx)
   have hrl5:=hrg1.lt
   have hw5:=HB5.out.size
   have hn5:=hC0.out
   have hb1:some w1.heap.size≠u8.ownBlock:=fun e=>(HO.out.1 _ e.symm).1 rfl
   have hb2:some (w2.heap.size+1)≠u8.ownBlock:=fun e=>(HO.out.1 _ e.symm).2 rfl
   go_wp2_with (first
    | (at_builtin;refine Kd.R_append (Kd.int .i64) (w0:=w) w.heap.size rfl _ _ 31 3 (.int .i64 0) 8 rfl Tryz.underlying31 infoInt rfl (by decide) (by decide) u8 ys y [.int .i64 y] (fun k=>k≠w1.heap.size∧k≠w2.heap.size+1) (fun _=>False) rfl rfl rfl (fun _ h=>h.elim) (fun j hj=>by constructor <;> omega) HO5.out HB5.out hw5 (by omega) ?_;intro v1 w6 ho6 hb6 hg6 hat6;have HO6:=Lib.hid ho6;have HB6:=Lib.hid hb6;have hrg6:=hrg1.kept hg6 hb1 hb2;clear ho6 hb6 hg6 hat6)
    | go_in)
   go_roundw
   case rel=>exact ⟨_,cnt1,ys++[y],hrg6,hT',by rw [List.length_append,List.length_singleton];omega,HO6.out,HB6.out⟩
   case measure=>rw [hrg6.left_eq,hrg.left_eq];exact hlt
end Go.Proofs.YthcpbojmalgdbaaGreatDoor.Q
