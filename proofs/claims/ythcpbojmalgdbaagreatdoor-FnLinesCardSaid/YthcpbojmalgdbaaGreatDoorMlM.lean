/- Merged out of this seat's own texts. -/
import Derived.Test.YthcpbojmalgdbaaGreatDoorMlC
import Derived.Test.YthcpbojmalgdbaaGreatDoorMlA
import Derived.Maps.OwnOps
import Derived.Maps.RangeWalk
import Derived.StillTailTactics
set_option linter.unusedVariables false
set_option linter.unusedSimpArgs false
namespace Go.Proofs.YthcpbojmalgdbaaGreatDoor.Q
open Go.RowKit Go.Proofs.YthcpbojmalgdbaaGreatDoorW.PrintWords Go.Proofs.YthcpbojmalgdbaaGreatDoor.Core Go.Maps
theorem lawInt:Keyed Tryz.prog 3:=int_keyed Tryz.underlying3
theorem zeroInt (w:World):(zeroValue 3).run Tryz.prog w = .ok (.int .i64 0) w:=by kernel_rfl
theorem str_same {a b:ByteArray} (h:a=b):(a.toList == b.toList)=true:=by rw [h];exact beq_self_eq_true _
theorem str_other {a b:ByteArray} (h:¬a=b):(a.toList == b.toList)=false:=by
 rw [beq_eq_false_iff_ne]
 intro e
 rw [ByteArray.toList_eq,ByteArray.toList_eq] at e
 exact h (by cases a;cases b;simpa using Array.toList_inj.1 e)
def MapIs (w:World) (b N:Nat) (f:Int→Nat):Prop :=
 ∃ D:DataW Unit,w.ownsMap Tryz.prog 3 (plainElem Tryz.prog 3) b N D∧IsMap D∧∀ t,D.atKey (.int .i64 t) (.lit (.int .i64 0)) = .lit (.int .i64 (f t))∧f t≤N
theorem MapIs.made (w:World):MapIs (w.alloc (.map #[] 0)) w.heap.size 0 (fun _=>0) :=
 ⟨.map [],World.ownsMap_made _ _ _ _,isMap_empty,fun _=>⟨rfl,Nat.le_refl _⟩⟩
theorem MapIs.lt {w:World} {b N:Nat} {f:Int→Nat} (h:MapIs w b N f):b<w.heap.size:=by obtain ⟨D,h1,_⟩:=h;exact h1.lt
theorem MapIs.mono {w:World} {b N M:Nat} {f:Int→Nat} (h:MapIs w b N f) (hN:N≤M):MapIs w b M f:=by
 obtain ⟨D,h1,h2,h3⟩:=h
 exact ⟨D,h1.mono hN,h2,fun t=>⟨(h3 t).1,Nat.le_trans (h3 t).2 hN⟩⟩
theorem MapIs.alloc {w:World} {b N:Nat} {f:Int→Nat} (h:MapIs w b N f) (o:Obj):MapIs (w.alloc o) b N f:=by
 obtain ⟨D,h1,h2,h3⟩:=h
 exact ⟨D,h1.alloc o,h2,h3⟩
theorem MapIs.ext {w:World} {b N:Nat} {f g:Int→Nat} (h:MapIs w b N f) (e:∀ t,f t=g t):MapIs w b N g:=by
 obtain rfl:f=g:=funext e
 exact h
theorem MapIs.put {w':World} {b N:Nat} {f:Int→Nat} {D:DataW Unit} {key:Int} (hIs:IsMap D) (hD:∀ t,D.atKey (.int .i64 t) (.lit (.int .i64 0)) = .lit (.int .i64 (f t))∧f t≤N)
  (h:w'.ownsMap Tryz.prog 3 (plainElem Tryz.prog 3) b (N+1) (D.put (.int .i64 key) (.lit (.int .i64 ((f key:Int)+1))))):MapIs w' b (N+1) (fun t=>if t=key then f t+1 else f t):=by
 refine ⟨_,h,hIs.put _ _,fun t => ?_⟩
 by_cases e:t=key
 ·subst e
  rw [atKey_put_same hIs (show WideAt.IsKeyLit (.int .i64 t) from trivial)]
  have:=(hD t).2
  simp
  omega
 ·rw [atKey_put_other (by intro h;injection h;contradiction)]
  simp only [if_neg e]
  exact ⟨(hD t).1,by have:=(hD t).2;omega⟩
theorem covers_end {v:Visit} {sec:ByteArray} (z t:Int) {i:Int} (hs:v.f0=sec) (hi:i=v.f2):(if z+v.f1≤t∧t<z+v.f1+i then 1 else 0:Nat)=if coversB z sec t v=true then 1 else 0:=by
 subst hi
 have e:(coversB z sec t v=true)↔(z+v.f1≤t∧t<z+v.f1+v.f2):=by
  simp only [coversB,inB,hs,decide_true,Bool.true_and,Bool.and_eq_true,decide_eq_true_eq];omega
 by_cases h:z+v.f1≤t∧t<z+v.f1+v.f2
 ·rw [if_pos h,if_pos (e.2 h)]
 ·rw [if_neg h,if_neg (fun x=>h (e.1 x))]
theorem covers_next (z t:Int) (a i:Int) (n:Nat) (hi:0≤i):(if t=z+a+i then (n+if z+a≤t∧t<z+a+i then 1 else 0)+1 else (n+if z+a≤t∧t<z+a+i then 1 else 0):Nat)=n+if z+a≤t∧t<z+a+(i+1) then 1 else 0:=by
 by_cases h1:t=z+a+i
 ·rw [if_pos h1,if_neg (by omega),if_pos (by omega)]
 ·rw [if_neg h1]
  by_cases h2:z+a≤t∧t<z+a+i
  ·rw [if_pos h2,if_pos (by omega)]
  ·rw [if_neg h2,if_neg (by omega)]
set_option maxRecDepth 100000 in
set_option maxHeartbeats 4000000 in
theorem impl_loads_any (A:Option Addr) (c:Nat) (l:List Flight) (A1:Option Addr) (c1:Nat) (s:List Int) (sec:ByteArray) (w:World) (hr:Kd.C k45 w A l.length l) (hr1:Kd.C (Kd.int .i64) w A1 s.length s) (hs:slotsB l s=true) :
  Calls Tryz.prog 82 #[.slice A l.length c, .slice A1 s.length c1, .string sec] w fun e w'=>e = .returned (.map (some w.heap.size))∧MapIs w' w.heap.size 1200 (fun t=>cntTo l s sec t l.length)∧Below w.heap.size w w':=by
 obtain ⟨hfl,hlen,hsb⟩:=slotsB_parts hs
 obtain ⟨hl8,hfs,_⟩:=flightsB_parts hfl
 have HL:=Lib.hid hlen
 have HFS:=Lib.hid hfs
 have HSB:=Lib.hid hsb
 clear hlen hsb hfs hfl hs
 have hmm := @run_makeMap Tryz.prog
 go_enter Tryz.func82,Tryz.ntmps82
 go_wp2
 go_loopw [16] (fun v wr=>∃ k:Nat,k≤l.length∧v = .int .i64 k∧MapIs wr w.heap.size (150*k) (fun t=>cntTo l s sec t k)∧Below w.heap.size w wr) (fun v _=>l.length-(intOf v).toNat)
 case atStart=>exact ⟨0,Nat.zero_le _,rfl,(MapIs.made w).ext (fun t=>(cntTo_zero l s sec t).symm),(Below.refl _ _).alloc (Nat.le_refl _) _⟩
 case round =>
  obtain ⟨k,hk,rfl,hM,hb⟩:=hrel
  by_cases hlt:k<l.length
  ·obtain ⟨ad,f,A3,c3,rfl,hf,f0,f1,f2,f3,hl3,hr3⟩:=flightAt hr k hlt
   obtain ⟨ad1,z,rfl,hz,z0⟩:=intAt hr1 k (by rw [HL.out];exact hlt)
   have j4:(k:Int)<l.length:=by omega
   have j5:(k:Int)<s.length:=by rw [HL.out];omega
   have HFZ:=Lib.hid (cntTo_step hf hz sec)
   have hzb:=HSB.out z (List.mem_of_getElem? hz)
   have HV:=Lib.hid (visitsB_parts (flightB_parts (HFS.out f (List.mem_of_getElem? hf))).2.2.2.2.2)
   have HZ:=Lib.hid hzb
   clear hf hz hzb
   have f0:=pw_cell_below hb f0
   have f1:=pw_cell_below hb f1
   have f2:=pw_cell_below hb f2
   have f3:=pw_cell_below hb f3
   have hz1:=cell_al (pw_cell_below hb z0) (.cells #[.string f.f0, .int .i64 f.f1, .int .i64 f.f2, .slice A3 f.f3.length c3] 45)
   by_cases hz0:z<0
   ·have e1:decide (z<0)=true:=decide_eq_true hz0
    go_wp2
    go_roundw
    case rel=>exact ⟨k+1,by omega,by go_num,((hM.alloc _).mono (by omega)).ext (fun t=>by rw [HFZ.out,cntP,if_neg (by omega)];rfl),hb.alloc hb.size _⟩
    case measure=>simp [intOf];omega
   ·have e1:decide (z<0)=false:=decide_eq_false hz0
    go_wp2
    clear f0 f1 f2 f3 hz1
    go_loopw [29] (fun v wr=>∃ j:Nat,j≤f.f3.length∧v = .int .i64 j∧MapIs wr w.heap.size (150*k+30*j) (fun t=>cntTo l s sec t k+cntV z sec t (f.f3.take j))∧Below w.heap.size w wr) (fun v _=>f.f3.length-(intOf v).toNat)
    case atStart=>exact ⟨0,Nat.zero_le _,rfl,(hM.alloc _).ext (fun t=>by rw [cntV_zero];rfl),hb.alloc hb.size _⟩
    case round =>
     obtain ⟨j,hj,rfl,hM,hb⟩:=hrel
     have hv5:f.f3.length≤5:=HV.out.2.1
     by_cases hjt:j<f.f3.length
     ·obtain ⟨ad3,v,rfl,hv,v0,v1,v2⟩:=visitAt hr3 j hjt
      have j6:(j:Int)<f.f3.length:=by omega
      have HVZ:=Lib.hid (cntV_step hv z sec)
      have hvb:=visitB_stay (HV.out.2.2.1 v (List.mem_of_getElem? hv))
      have v0:=pw_cell_below hb v0
      have v1:=pw_cell_below hb v1
      have v2:=pw_cell_below hb v2
      clear hv
      by_cases hsec:v.f0=sec
      ·have e3:=str_same hsec
       have HS:=Lib.hid hsec
       clear hsec
       go_wp2
       clear v0 v1 v2
       have hVlt:=hM.lt
       go_loopw [12] (fun u wi=>∃ i:Nat,(i:Int)≤v.f2∧u = .int .i64 i∧MapIs wi w.heap.size (150*k+30*j+i) (fun t=>cntTo l s sec t k+cntV z sec t (f.f3.take j)+if z+v.f1≤t∧t<z+v.f1+i then 1 else 0) ∧
        wi.cell? ⟨wr.heap.size,1,none⟩=some (.int .i64 v.f1)∧wi.cell? ⟨wr.heap.size,2,none⟩=some (.int .i64 v.f2)∧Below w.heap.size w wi∧wr.heap.size<wi.heap.size) (fun u _=>(v.f2-intOf u).toNat)
       case atStart=>exact ⟨0,by omega,rfl,(hM.alloc _).ext (fun t=>by rw [if_neg (by omega)];rfl),by simp,by simp,hb.alloc hb.size _,by simp⟩
       case round =>
        have hBw:=hb.size
        have hvb2:=hvb
        clear hvb
        obtain ⟨i,hi,rfl,hM,c1,c2,hb,hsz⟩:=hrel
        by_cases hit:(i:Int)<v.f2
        ·have e4:decide ((i:Int)<v.f2)=true:=decide_eq_true hit
         have hz1:=pw_cell_below hb z0
         have HZb:=HZ.out
         have j7:IntKind.i64.wrap (z+v.f1)=z+v.f1:=IntWalk.i64_in _ (by omega)
         have j8:IntKind.i64.wrap (z+v.f1+i)=z+v.f1+i:=IntWalk.i64_in _ (by omega)
         obtain ⟨D,hown,hIs,hD⟩:=hM
         go_wp2
         go_still_tail 10,(by kernel_rfl)
         change wpList _ _ _ _ _ wr.drew
         have hk1:keyOf Tryz.prog 3 (.int .i64 (z+v.f1+i))=some (.int .i64 (z+v.f1+i)):=keyOf_int_mk Tryz.underlying3 (WalkArith.wf_i64 (by omega))
         have HD:=Lib.hid hD
         have hbd:=(hD (z+v.f1+i)).2
         clear hD
         go_wp2_with (first
          | (at_lookup;refine wpList_lookup_own_int _ rfl _ _ 106 rfl 3 3 .i64 lawInt Tryz.underlying106 Tryz.underlying3 (zeroInt _) w.heap.size _ _ rfl hown.drew _ _ rfl hk1 ?_;intro cc hat hwc;rw [(HD.out _).1] at hat;have hcc:=Lib.hid hat;have hc0:0≤cc∧cc≤1200:=(by injection hat with hat;injection hat with _ hat;omega);clear hat)
          | (at_mapUpdate;refine wpList_mapUpdate_own _ rfl _ _ _ 106 rfl 3 3 lawInt Tryz.underlying106 _ w.heap.size _ _ rfl hown.drew (by unfold maxLen;omega) _ _ _ rfl rfl hk1 _ [] (plainElem_int Tryz.underlying3 (WalkArith.wf_i64 (by omega))) ?_;intro w1 hown1 hg1)
          | go_in)
         go_roundw
         case rel =>
          have ecc:cc=((cntTo l s sec (z+v.f1+i) k+cntV z sec (z+v.f1+i) (f.f3.take j)+if z+v.f1≤z+v.f1+i∧z+v.f1+i<z+v.f1+i then 1 else 0:Nat):Int):=by
           have h:=hcc.out
           injection h with h
           injection h with _ h
           exact h.symm
          rw [ecc] at hown1
          exact ⟨i+1,by omega,rfl,(MapIs.put hIs HD.out hown1).ext (fun t=>by rw [covers_next z t v.f1 i _ (by omega)];rfl),hg1.cell (by exact c1) (by simp;omega),hg1.cell (by exact c2) (by simp;omega),hb.drew.grown hg1 hb.size (fun j hj=>by cases hj;exact Nat.le_refl _),Nat.lt_of_lt_of_le hsz hg1.size⟩
         case measure=>simp [intOf];omega
        ·go_wp2
         go_roundw
         case rel=>exact ⟨j+1,by omega,by go_num,(hM.mono (by omega)).ext (fun t=>by rw [HVZ.out,covers_end z t HS.out (by omega),Nat.add_assoc]),hb⟩
         case measure=>simp [intOf];omega
      ·have e3:=str_other hsec
       have HS:=Lib.hid hsec
       go_wp2
       go_roundw
       case rel=>exact ⟨j+1,by omega,by go_num,((hM.alloc _).mono (by omega)).ext (fun t=>by rw [HVZ.out];simp [coversB,HS.out]),hb.alloc hb.size _⟩
       case measure=>simp [intOf];omega
     ·go_wp2
      go_roundw
      case rel=>exact ⟨k+1,by omega,by go_num,(hM.mono (by omega)).ext (fun t=>by rw [HFZ.out,cntP,if_pos (by omega),List.take_of_length_le (by omega)]),hb⟩
      case measure=>simp [intOf];omega
  ·go_wp2
   go_ret
   obtain rfl:k=l.length:=by omega
   exact ⟨rfl,hM.mono (by omega),hb⟩
theorem hasB_drop {vs:List Visit} {k:Nat} {v:Visit} (h:vs[k]? = some v) (x:Int) (sec:ByteArray) (t:Int):hasB x sec t (vs.drop k)=(coversB x sec t v || hasB x sec t (vs.drop (k+1))):=by
 have hk:=some_lt h
 unfold hasB
 rw [List.drop_eq_getElem_cons hk,List.any_cons]
 rw [List.getElem?_eq_getElem hk] at h
 rw [Option.some.inj h]
set_option maxRecDepth 100000 in
set_option maxHeartbeats 2000000 in
theorem spec_has_any (f:Flight) (A3:Option Addr) (c3:Nat) (z:Int) (sec:ByteArray) (tick:Int) (w:World) (hr:Kd.C k52 w A3 f.f3.length f.f3) (hv:visitsB f.f3=true) (hz : -1≤z∧z≤10060) :
  Calls Tryz.prog 92 #[.agg #[.string f.f0, .int .i64 f.f1, .int .i64 f.f2, .slice A3 f.f3.length c3], .int .i64 z, .string sec, .int .i64 tick] w fun e w'=>e = .returned (.bool (hasB z sec tick f.f3))∧Below w.heap.size w w':=by
 obtain ⟨f0,f1,f2,vs⟩:=f
 simp only at hr hv ⊢
 obtain ⟨_,hv5,hvs,_⟩:=visitsB_parts hv
 have HV:=Lib.hid hvs
 have QI:=Lib.hid quiet_in
 clear hvs hv
 go_enter Tryz.func92,Tryz.ntmps92
 go_wp2
 go_loopw [9] (fun v wr=>∃ k:Nat,k≤vs.length∧v = .int .i64 k∧Hid (hasB z sec tick vs=hasB z sec tick (vs.drop k))∧Below (w.heap.size+1) (w.alloc (.cells #[.string f0, .int .i64 f1, .int .i64 f2, .slice A3 vs.length c3] 45)) wr) (fun v _=>vs.length-(intOf v).toNat)
 case atStart=>exact ⟨0,Nat.zero_le _,rfl,rfl,Below.refl _ _⟩
 case round =>
  obtain ⟨k,hk,rfl,hF,hb⟩:=hrel
  have hsz:w.heap.size+1≤wr.heap.size:=by have:=hb.size;simpa using this
  have hBW:=Lib.hid (((Below.refl _ _).alloc (Nat.le_refl _) _).trans (hb.mono (by omega)):Below w.heap.size w wr)
  have c3:=(hb.cell (p:=⟨w.heap.size,3,none⟩) (by simp)).trans (show _=some (Value.slice A3 vs.length c3) by simp)
  by_cases hlt:k<vs.length
  ·obtain ⟨ad3,v,rfl,hx,v0,v1,v2⟩:=visitAt (Kd.C_below hr hBW.out) k hlt
   have j6:(k:Int)<vs.length:=by omega
   have HX:=Lib.hid (hasB_drop hx z sec tick)
   have hvb:=visitB_stay (HV.out v (List.mem_of_getElem? hx))
   clear hx
   by_cases hsec:v.f0=sec
   ·have e3:=str_same hsec
    have HS:=Lib.hid hsec
    clear hsec
    have j7:IntKind.i64.wrap (z+v.f1)=z+v.f1:=IntWalk.i64_in _ (by omega)
    have j8:IntKind.i64.wrap (z+v.f1+v.f2)=z+v.f1+v.f2:=IntWalk.i64_in _ (by omega)
    have j9:IntKind.i64.wrap (z+v.f1+v.f2-1)=z+v.f1+v.f2-1:=IntWalk.i64_in _ (by omega)
    clear hvb
    cases hi:inB tick (z+v.f1) (z+v.f1+v.f2-1) with
    | true =>
     go_wp2_with (first | (go_at_call 45;refine (QI.out _ _ _ _).mono ?_;rintro e w' ⟨rfl,rfl⟩) | go_in)
     go_ret
     exact ⟨ret_bool (by rw [hF.out,HX.out,coversB,HS.out,hi];simp),hBW.out.alloc hBW.out.size _⟩
    | false =>
     go_wp2_with (first | (go_at_call 45;refine (QI.out _ _ _ _).mono ?_;rintro e w' ⟨rfl,rfl⟩) | go_in)
     go_roundw
     case rel=>exact ⟨k+1,by omega,by go_num,by show _=_;rw [hF.out,HX.out,coversB,HS.out,hi];simp,hb.alloc (by simpa using hsz) _⟩
     case measure=>simp [intOf];omega
   ·have e3:=str_other hsec
    have HS:=Lib.hid hsec
    clear hsec hvb
    go_wp2
    go_roundw
    case rel=>exact ⟨k+1,by omega,by go_num,by show _=_;rw [hF.out,HX.out,coversB];simp [HS.out],hb.alloc (by simpa using hsz) _⟩
    case measure=>simp [intOf];omega
  ·go_wp2
   go_ret
   obtain rfl:k=vs.length:=by omega
   exact ⟨ret_bool (by rw [hF.out,List.drop_length];rfl),hBW.out⟩
set_option maxRecDepth 100000 in
set_option maxHeartbeats 2000000 in
theorem spec_l2Load_any (A:Option Addr) (c:Nat) (l:List Flight) (A1:Option Addr) (c1:Nat) (s:List Int) (sec:ByteArray) (tick:Int) (w:World) (hr:Kd.C k45 w A l.length l) (hr1:Kd.C (Kd.int .i64) w A1 s.length s) (hs:slotsB l s=true) :
  Calls Tryz.prog 59 #[.slice A l.length c, .slice A1 s.length c1, .string sec, .int .i64 tick] w fun e w'=>e = .returned (.int .i64 (loadTo l s sec tick l.length))∧Below w.heap.size w w':=by
 obtain ⟨hfl,hlen,hsb⟩:=slotsB_parts hs
 obtain ⟨hl8,hfs,_⟩:=flightsB_parts hfl
 have HL:=Lib.hid hlen
 have HFS:=Lib.hid hfs
 have HSB:=Lib.hid hsb
 clear hlen hsb hfs hfl hs
 go_enter Tryz.func59,Tryz.ntmps59
 go_wp2
 go_loopw [9,10] (fun n v wr=>∃ (k m:Nat),k≤l.length∧v = .int .i64 k∧n = .int .i64 m∧m≤k∧Hid (m=loadTo l s sec tick k)∧Below w.heap.size w wr) (fun _ v _=>l.length-(intOf v).toNat)
 case atStart=>exact ⟨0,0,Nat.zero_le _,rfl,rfl,Nat.le_refl _,(loadTo_zero _ _ _ _).symm,Below.refl _ _⟩
 case round =>
  obtain ⟨k,m,hk,rfl,rfl,hm,hF,hb⟩:=hrel
  by_cases hlt:k<l.length
  ·obtain ⟨ad,f,A3,c3,rfl,hf,f0,f1,f2,f3,hl3,hr3⟩:=flightAt (Kd.C_below hr hb) k hlt
   obtain ⟨ad1,z,rfl,hz,z0⟩:=intAt (Kd.C_below hr1 hb) k (by rw [HL.out];exact hlt)
   have j4:(k:Int)<l.length:=by omega
   have j5:(k:Int)<s.length:=by rw [HL.out];omega
   have HFZ:=Lib.hid (loadTo_step hf hz sec tick)
   have hzb:=HSB.out z (List.mem_of_getElem? hz)
   have QF:=Lib.hid (fun u:After wr=>spec_has_any f A3 c3 z sec tick u.w (Kd.C_below hr3 u.hb) (flightB_parts (HFS.out f (List.mem_of_getElem? hf))).2.2.2.2.2 hzb)
   have b0:=After.cell f0
   have b1:=After.cell f1
   have b2:=After.cell f2
   have b3:=After.cell f3
   have b4:=After.cell z0
   clear hf hz hr3 hl3 hzb
   by_cases hi:0≤z
   ·have e1:decide (0≤z)=true:=decide_eq_true hi
    cases hh:hasB z sec tick f.f3 with
    | true =>
     go_wp2
     refine wp_region_after (by kernel_rfl) (by kernel_rfl) ?_
     repeat (go_big_quiet_step (first | (go_at_call 92;exact calls_after (QF.out _))))
     refine wpQuiet_nil ?_
     intro _ hw'
     obtain ⟨u,hw''⟩:=hw'
     subst hw''
     go_wp2
     go_roundw
     case rel=>exact ⟨k+1,m+1,by omega,by go_num,by go_num,by omega,by show _=_;rw [HFZ.out,← hF.out,onP,hh];simp [hi],below_next hb hb.size u.hb⟩
     case measure=>simp [intOf];omega
    | false =>
     have HH:=Lib.hid hh
     go_wp2
     refine wp_region_after (by kernel_rfl) (by kernel_rfl) ?_
     repeat (go_big_quiet_step (first | (go_at_call 92;exact calls_after (QF.out _))))
     refine wpQuiet_nil ?_
     intro _ hw'
     obtain ⟨u,hw''⟩:=hw'
     subst hw''
     go_wp2
     go_roundw
     case rel=>exact ⟨k+1,m,by omega,by go_num,rfl,by omega,by show _=_;rw [HFZ.out,← hF.out,onP];simp [HH.out],below_next hb hb.size u.hb⟩
     case measure=>simp [intOf];omega
   ·have e1:decide (0≤z)=false:=decide_eq_false hi
    have HI:=Lib.hid hi
    go_wp2
    refine wp_region_after (by kernel_rfl) (by kernel_rfl) ?_
    repeat (go_big_quiet_step (fail))
    refine wpQuiet_nil ?_
    intro _ hw'
    obtain ⟨u,hw''⟩:=hw'
    subst hw''
    go_wp2
    go_roundw
    case rel=>exact ⟨k+1,m,by omega,by go_num,rfl,by omega,by show _=_;rw [HFZ.out,← hF.out];simp [onP,show ¬(0≤z) by omega],below_next hb hb.size u.hb⟩
    case measure=>simp [intOf];omega
  ·go_wp2
   go_ret
   obtain rfl:k=l.length:=by omega
   exact ⟨ret_int (by rw [hF.out]),hb⟩
theorem hat_eq {D:DataW Unit} {f:Int→Nat} {N:Nat} (hD:∀ t,D.atKey (.int .i64 t) (.lit (.int .i64 0)) = .lit (.int .i64 (f t))∧f t≤N) {x c:Int} (h:∀ zd,D.atKey (.int .i64 x) zd = .lit (.int .i64 c)):c=(f x:Int):=by
 have h1:=h (.lit (.int .i64 0))
 rw [(hD x).1] at h1
 injection h1 with h1
 injection h1 with _ h1
 exact h1.symm
theorem no_key {D:DataW Unit} (hI:IsMap D) {f:Int→Nat} {N:Nat} (hD:∀ t,D.atKey (.int .i64 t) (.lit (.int .i64 0)) = .lit (.int .i64 (f t))∧f t≤N) {t:Int} (h:Maps.has D (.int .i64 t)=false):f t=0:=by
 have h1:=atKey_of_not_has h (.lit (.int .i64 0):DataW Unit)
 rw [(hD t).1] at h1
 injection h1 with h1
 injection h1 with _ h1
 omega
def SeenOk (D:DataW Unit) (left:Lit→Bool) (f:Int→Nat) (cap:Int):Prop:=∀ t:Int,Maps.has D (.int .i64 t)=true→left (.int .i64 t)=false→(f t:Int)≤cap
theorem seen_start (D:DataW Unit) (f:Int→Nat) (cap:Int):SeenOk D (Maps.has D) f cap:=fun t h h'=>by rw [h] at h';cases h'
theorem seen_step {D:DataW Unit} {left:Lit→Bool} {f:Int→Nat} {cap x:Int} (h:SeenOk D left f cap) (hx:(f x:Int)≤cap):SeenOk D (fun z=>left z && !z.sameKey (.int .i64 x)) f cap:=fun t ht hl=>by
 cases hlt:left (.int .i64 t) with
 | false=>exact h t ht hlt
 | true =>
  simp only [hlt,Bool.true_and,Bool.not_eq_false'] at hl
  have e:=WideAt.sameKey_eq hl
  injection e with _ e
  rw [e];exact hx
theorem seen_end {D:DataW Unit} (hI:IsMap D) {left:Lit→Bool} {f:Int→Nat} {N:Nat} {cap:Int} (hc:0≤cap) (hD:∀ t,D.atKey (.int .i64 t) (.lit (.int .i64 0)) = .lit (.int .i64 (f t))∧f t≤N) (h:SeenOk D left f cap) (hl:∀ kl,left kl=false) (t:Int):(f t:Int)≤cap:=by
 cases hh:Maps.has D (.int .i64 t) with
 | true=>exact h t hh (hl _)
 | false=>rw [no_key hI hD hh];exact hc
set_option maxRecDepth 100000 in
set_option maxHeartbeats 4000000 in
theorem impl_fits_any (A:Option Addr) (c:Nat) (caps:List Cap) (A1:Option Addr) (c1:Nat) (l:List Flight) (A2:Option Addr) (c2:Nat) (s:List Int) (w:World)
  (hr:Kd.C k80 w A caps.length caps) (hr1:Kd.C k45 w A1 l.length l) (hr2:Kd.C (Kd.int .i64) w A2 s.length s) (hcs:capsB caps=true) (hs:slotsB l s=true) :
  Calls Tryz.prog 114 #[.slice A caps.length c, .slice A1 l.length c1, .slice A2 s.length c2] w fun e w'=>e = .returned (.bool (noneFull caps l s))∧Below w.heap.size w w':=by
 obtain ⟨hc6,hcb,_⟩:=capsB_parts hcs
 have HCB:=Lib.hid hcb
 have HS:=Lib.hid hs
 have ql:∀ (W:World) (B:Nat) (sec:ByteArray),Below w.heap.size w W→W.heap.size=B→Calls Tryz.prog 82 #[.slice A1 l.length c1, .slice A2 s.length c2, .string sec] W fun e w'=>e = .returned (.map (some B))∧MapIs w' B 1200 (fun t=>cntTo l s sec t l.length)∧Below B W w' :=
  fun W B sec h hB=>by subst hB;exact impl_loads_any A1 c1 l A2 c2 s sec W (Kd.C_below hr1 h) (Kd.C_below hr2 h) hs
 have QL:=Lib.hid ql
 clear ql
 clear hcb hs hcs hr1 hr2
 go_enter Tryz.func114,Tryz.ntmps114
 go_wp2
 go_loopw [13] (fun v wr=>∃ k:Nat,k≤caps.length∧v = .int .i64 k∧Hid (noneFull caps l s=noneFull (caps.drop k) l s)∧Below w.heap.size w wr) (fun v _=>caps.length-(intOf v).toNat)
 case atStart=>exact ⟨0,Nat.zero_le _,rfl,rfl,Below.refl _ _⟩
 case round =>
  obtain ⟨k,hk,rfl,hF,hb⟩:=hrel
  by_cases hlt:k<caps.length
  ·obtain ⟨ad,x,rfl,hx,x0,x1⟩:=capAt (Kd.C_below hr hb) k hlt
   have j4:(k:Int)<caps.length:=by omega
   have HX:=Lib.hid (noneFull_step hx l s)
   have hxb:=(capB_parts (HCB.out x (List.mem_of_getElem? hx))).2
   have hba:=hb.alloc hb.size (.cells #[.string x.f0, .int .i64 x.f1] 80)
   clear hx
   go_wp2_with (first
    | (go_at_call 82;refine (QL.out _ (wr.heap.size+1) _ hba (by simp)).mono ?_;rintro e w2 ⟨rfl,⟨D,hown,hIs,hD⟩,hb2⟩)
    | (at_range;refine wpList_range_own _ rfl _ 106 rfl 3 3 lawInt Tryz.underlying106 _ (wr.heap.size+1) _ _ rfl hown ?_;intro w0 hrg0 hg0 hs0)
    | go_in)
   go_frame
   have hb2:Below (wr.alloc (.cells #[.string x.f0, .int .i64 x.f1] 80)).heap.size (wr.alloc (.cells #[.string x.f0, .int .i64 x.f1] 80)) w2:=by rw [show (wr.alloc (.cells #[.string x.f0, .int .i64 x.f1] 80)).heap.size=wr.heap.size+1 by simp];exact hb2
   have hb2':=(below_next hba hba.size hb2).grown hg0 (by have:=hb2.size;simp at this;have:=hb.size;omega) (fun j hj=>by cases hj)
   have k1:=hg0.cell (pw_cell_below hb2 (show (wr.alloc (.cells #[.string x.f0, .int .i64 x.f1] 80)).cell? ⟨wr.heap.size,1,none⟩=some (.int .i64 x.f1) by simp)) (by simp)
   have hwr:w.heap.size≤wr.heap.size:=hb.size
   have hw2:wr.heap.size<w2.heap.size:=by have:=hb2.size;simp at this;omega
   have HD:=Lib.hid hD
   clear hD x0 x1 hown hb2 hba hg0
   go_loopw [10] (fun _ wq=>∃ (left:Lit→Bool) (cnt:Nat),wq.ranges Tryz.prog 3 (plainElem Tryz.prog 3) (wr.heap.size+1) w2.heap.size 1200 D left cnt∧Hid (SeenOk D left (fun t=>cntTo l s x.f0 t l.length) x.f1) ∧
     wq.cell? ⟨wr.heap.size,1,none⟩=some (.int .i64 x.f1)∧Below w.heap.size w wq) (fun _ wq=>wq.rangeLeft (wr.heap.size+1) w2.heap.size)
   case atStart=>exact ⟨_,_,hrg0,seen_start _ _ _,k1,hb2'⟩
   case round =>
    obtain ⟨left,cnt,hrg,hS,k1,hb⟩:=hrel
    clear hrg0 hb2'
    go_wp2_with (first
     | (at_next;refine wpList_next_ranges_ii _ rfl _ rfl 3 3 .i64 .i64 lawInt Tryz.underlying3 Tryz.underlying3 _ w2.heap.size _ _ _ _ rfl hrg ?_ ?_)
     | go_in)
    ·intro hc0 hl0
     have hnf:=Lib.hid (not_full HS.out x (seen_end hIs hxb.1 HD.out hS.out hl0))
     go_wp2
     go_roundw
     case rel=>exact ⟨k+1,by omega,by go_num,by show _=_;rw [hF.out,HX.out,hnf.out];rfl,hb⟩
     case measure=>simp [intOf];omega
    ·intro y cc w1 cnt1 hwx hwc hlx hat hrg1 hlt hg1 hs1 hen
     have hcc:=hat_eq HD.out hat
     have k1':=hg1.cell k1 (by simp;omega)
     by_cases hov:x.f1<cc
     ·have hfull:=Lib.hid (full_of_over HS.out x hxb.1 y (by rw [← hcc];exact hov))
      have e1:decide (x.f1<cc)=true:=decide_eq_true hov
      go_wp2
      go_ret
      exact ⟨ret_bool (by rw [hF.out,HX.out,hfull.out];rfl),hb.grown hg1 (by have:=hb.size;omega) (fun j hj=>by cases hj;omega)⟩
     ·have e1:decide (x.f1<cc)=false:=decide_eq_false hov
      have hS':=Lib.hid (seen_step hS.out (show (cntTo l s x.f0 y l.length:Int)≤x.f1 by rw [← hcc];omega))
      go_wp2
      go_roundw
      case rel=>exact ⟨_,cnt1,hrg1,hS',k1',hb.grown hg1 (by have:=hb.size;omega) (fun j hj=>by cases hj;omega)⟩
      case measure=>rw [hrg1.left_eq,hrg.left_eq];exact hlt
  ·go_wp2
   go_ret
   obtain rfl:k=caps.length:=by omega
   exact ⟨ret_bool (by rw [hF.out,List.drop_length];rfl),hb⟩
end Go.Proofs.YthcpbojmalgdbaaGreatDoor.Q
namespace Go.Proofs.YthcpbojmalgdbaaGreatDoor.Q
open Go.RowKit Go.Proofs.YthcpbojmalgdbaaGreatDoorW.PrintWords Go.Proofs.YthcpbojmalgdbaaGreatDoor.Core
theorem quiet_in_impl (a b c:Int) (W:World):Calls Tryz.prog 65 #[.int .i64 a, .int .i64 b, .int .i64 c] W fun e w'=>e = .returned (.bool (inB a b c))∧w'=W:=(impl_in_any _ _ _ W).mono fun _ _ h=>⟨h.1,h.2.symm⟩
set_option maxRecDepth 100000 in
set_option maxHeartbeats 4000000 in
theorem impl_fitsAll_any (A:Option Addr) (c:Nat) (caps:List Cap) (A1:Option Addr) (c1:Nat) (l:List Flight) (A2:Option Addr) (c2:Nat) (s:List Int) (w:World)
  (hr:Kd.C k80 w A caps.length caps) (hr1:Kd.C k45 w A1 l.length l) (hr2:Kd.C (Kd.int .i64) w A2 s.length s) :
  Calls Tryz.prog 105 #[.slice A caps.length c, .slice A1 l.length c1, .slice A2 s.length c2] w fun e w'=>e = .returned (.bool (fitsB caps l s))∧Below w.heap.size w w':=by
 have QC:=Lib.hid (impl_capsOk_any A c caps w hr (C_len hr))
 have QS:=Lib.hid (fun W (h:Below w.heap.size w W)=>impl_slotsOk_any A1 c1 l A2 c2 s W (Kd.C_below hr1 h) (Kd.C_below hr2 h))
 cases hc:capsB caps with
 | false =>
  go_enter Tryz.func105,Tryz.ntmps105
  go_wp2_with (first | (go_at_call 76;refine QC.out.mono ?_;rintro e w1 ⟨rfl,hb⟩;rw [hc]) | go_in)
  go_ret
  exact ⟨ret_bool (by simp [fitsB,hc]),hb⟩
 | true =>
 cases hs:slotsB l s with
 | false =>
  go_enter Tryz.func105,Tryz.ntmps105
  go_wp2_with (first
   | (go_at_call 76;refine QC.out.mono ?_;rintro e w1 ⟨rfl,hb⟩;rw [hc])
   | (go_at_call 81;refine (QS.out _ hb).mono ?_;rintro e w2 ⟨rfl,hb2⟩;rw [hs])
   | go_in)
  go_ret
  exact ⟨ret_bool (by simp [fitsB,hc,hs]),below_next hb hb.size hb2⟩
 | true =>
  obtain ⟨hfl,hlen,hsb⟩:=slotsB_parts hs
  obtain ⟨hl8,hfs,_⟩:=flightsB_parts hfl
  have HB:Hid (fitsB caps l s=((l.zip s).all timeP && noneFull caps l s)):=by show _=_;simp [fitsB,timeB,hc,hs]
  have HL:=Lib.hid hlen
  have HFS:=Lib.hid hfs
  have HSB:=Lib.hid hsb
  have QI:=Lib.hid quiet_in_impl
  have QF:=Lib.hid (fun W (h:Below w.heap.size w W)=>impl_fits_any A c caps A1 c1 l A2 c2 s W (Kd.C_below hr h) (Kd.C_below hr1 h) (Kd.C_below hr2 h) hc hs)
  have hs8:s.length≤8:=by omega
  have HC:=Lib.hid hc
  have HS:=Lib.hid hs
  clear hfl hlen hsb hfs
  go_enter Tryz.func105,Tryz.ntmps105
  go_wp2_with (first
   | (go_at_call 76;refine QC.out.mono ?_;rintro e w1 ⟨rfl,hb⟩;rw [HC.out])
   | (go_at_call 81;refine (QS.out _ hb).mono ?_;rintro e w2 ⟨rfl,hb2⟩;rw [HS.out];replace hb:=below_next hb hb.size hb2;clear hb2)
   | go_in)
  clear hc hs
  go_loopw [20] (fun v wr=>∃ k:Nat,k≤s.length∧v = .int .i64 k∧Hid ((l.zip s).all timeP=((l.zip s).drop k).all timeP)∧Below w.heap.size w wr) (fun v _=>s.length-(intOf v).toNat)
  case atStart=>exact ⟨0,Nat.zero_le _,rfl,rfl,hb⟩
  case round =>
   clear hb
   obtain ⟨k,hk,rfl,hF,hb⟩:=hrel
   by_cases hlt:k<s.length
   ·obtain ⟨ad2,z,rfl,hz,z0⟩:=intAt (Kd.C_below hr2 hb) k hlt
    obtain ⟨ad,f,A3,c3,rfl,hf,f0,f1,f2,f3,hl3,hr3⟩:=flightAt (Kd.C_below hr1 hb) k (by rw [← HL.out];exact hlt)
    have j4:(k:Int)<s.length:=by omega
    have j5:(k:Int)<l.length:=by rw [← HL.out];omega
    have HT:=Lib.hid (timeB_step hf hz)
    have hfb:=flightB_parts (HFS.out f (List.mem_of_getElem? hf))
    obtain ⟨_,b1,b2,b3,b4,_⟩:=hfb
    have j7:IntKind.i64.wrap (f.f1+f.f2)=f.f1+f.f2:=IntWalk.i64_in _ (by omega)
    have hzb:=HSB.out z (List.mem_of_getElem? hz)
    clear b1 b2 b3 b4 hf hz hr3 hl3 f0 f3
    by_cases hi:z = -1
    ·have e1:(z != -1)=false:=by simp [hi]
     have HI:=Lib.hid hi
     clear hi
     go_wp2
     go_quiet (fail)
     go_wp2
     go_roundw
     case rel=>exact ⟨k+1,by omega,by go_num,by show _=_;rw [hF.out,HT.out,timeP,HI.out];simp,pw_below_drewN hb _⟩
     case measure=>simp [intOf];omega
    ·have e1:(z != -1)=true:=by simp [hi]
     have hz0:0≤z:=by omega
     clear hi
     cases hin:inB z f.f1 (f.f1+f.f2) with
     | true =>
      have HI:=Lib.hid hin
      go_wp2
      go_quiet (first | (go_at_call 65;exact Calls.quiet_of_same (QI.out _ _ _ _)))
      go_wp2
      go_roundw
      case rel=>exact ⟨k+1,by omega,by go_num,by show _=_;rw [hF.out,HT.out,timeP,HI.out];simp,pw_below_drewN hb _⟩
      case measure=>simp [intOf];omega
     | false =>
      have HI:=Lib.hid hin
      go_wp2
      go_quiet (first | (go_at_call 65;exact Calls.quiet_of_same (QI.out _ _ _ _)))
      go_wp2
      go_ret
      exact ⟨ret_bool (by rw [HB.out,hF.out,HT.out,timeP,HI.out];simp [hz0]),pw_below_drewN hb _⟩
   ·go_wp2_with (first | (go_at_call 114;refine (QF.out _ hb).mono ?_;rintro e w3 ⟨rfl,hb3⟩) | go_in)
    go_ret
    obtain rfl:k=s.length:=by omega
    exact ⟨ret_bool (by rw [HB.out,hF.out,List.drop_of_length_le (by simp;omega)];rfl),below_next hb hb.size hb3⟩
theorem fullP_skip {x:Cap} {l:List Flight} {s:List Int} {f:Flight} {z:Int} (h:0≤z→f.f3.any (fullV x l s z)=false):fullP x l s (f,z)=false:=by
 unfold fullP
 by_cases h0:0≤z
 ·rw [h h0,Bool.and_false]
 ·rw [decide_eq_false h0];rfl
theorem fullP_hit {x:Cap} {l:List Flight} {s:List Int} {f:Flight} {z:Int} (h0:0≤z) (h:f.f3.any (fullV x l s z)=true):fullP x l s (f,z)=true:=by
 unfold fullP
 rw [h,decide_eq_true h0];rfl
set_option maxRecDepth 100000 in
set_option maxHeartbeats 4000000 in
theorem spec_l2Full_any (x:Cap) (A1:Option Addr) (c1:Nat) (l:List Flight) (A2:Option Addr) (c2:Nat) (s:List Int) (w:World)
  (hr1:Kd.C k45 w A1 l.length l) (hr2:Kd.C (Kd.int .i64) w A2 s.length s) (hs:slotsB l s=true) :
  Calls Tryz.prog 119 #[.agg #[.string x.f0, .int .i64 x.f1], .slice A1 l.length c1, .slice A2 s.length c2] w fun e w'=>e = .returned (.bool (fullB x l s))∧Below w.heap.size w w':=by
 obtain ⟨hfl,hlen,hsb⟩:=slotsB_parts hs
 obtain ⟨hl8,hfs,_⟩:=flightsB_parts hfl
 have HL:=Lib.hid hlen
 have HFS:=Lib.hid hfs
 have HSB:=Lib.hid hsb
 have QL:=Lib.hid (fun W t (h:Below w.heap.size w W)=>spec_l2Load_any A1 c1 l A2 c2 s x.f0 t W (Kd.C_below hr1 h) (Kd.C_below hr2 h) hs)
 clear hlen hsb hfs hfl hs
 go_enter Tryz.func119,Tryz.ntmps119
 go_wp2
 go_loopw [7] (fun v wr=>∃ k:Nat,k≤l.length∧v = .int .i64 k∧Hid (fullB x l s=((l.zip s).drop k).any (fullP x l s))∧Below (w.heap.size+1) (w.alloc (.cells #[.string x.f0, .int .i64 x.f1] 80)) wr) (fun v _=>l.length-(intOf v).toNat)
 case atStart=>exact ⟨0,Nat.zero_le _,rfl,rfl,Below.refl _ _⟩
 case round =>
  obtain ⟨k,hk,rfl,hF,hb⟩:=hrel
  have hsz:w.heap.size+1≤wr.heap.size:=by have:=hb.size;simpa using this
  have hBW:=Lib.hid (((Below.refl _ _).alloc (Nat.le_refl _) _).trans (hb.mono (by omega)):Below w.heap.size w wr)
  by_cases hlt:k<l.length
  ·obtain ⟨ad,f,A3,c3,rfl,hf,f0,f1,f2,f3,hl3,hr3⟩:=flightAt hr1 k hlt
   obtain ⟨ad2,z,rfl,hz,z0⟩:=intAt hr2 k (by rw [HL.out];exact hlt)
   have j4:(k:Int)<l.length:=by omega
   have j5:(k:Int)<s.length:=by rw [HL.out];omega
   have HT:=Lib.hid (fullB_step hf hz (c:=x))
   have HV:=Lib.hid (visitsB_parts (flightB_parts (HFS.out f (List.mem_of_getElem? hf))).2.2.2.2.2)
   have hzb:=HSB.out z (List.mem_of_getElem? hz)
   clear hf hz f0 f1 f2
   go_wp2
   go_loopw [8] (fun v wr=>∃ j:Nat,j≤f.f3.length∧v = .int .i64 j∧Hid (0≤z→f.f3.any (fullV x l s z)=(f.f3.drop j).any (fullV x l s z))∧Below (w.heap.size+1) (w.alloc (.cells #[.string x.f0, .int .i64 x.f1] 80)) wr) (fun v _=>f.f3.length-(intOf v).toNat)
   case atStart=>exact ⟨0,Nat.zero_le _,rfl,fun _=>rfl,hb⟩
   case round =>
    clear hb hsz hBW
    obtain ⟨j,hj,rfl,hG,hb⟩:=hrel
    have hv5:f.f3.length≤5:=HV.out.2.1
    have hsz:w.heap.size+1≤wr.heap.size:=by have:=hb.size;simpa using this
    have hbw:Below w.heap.size w wr:=((Below.refl _ _).alloc (Nat.le_refl _) _).trans (hb.mono (by omega))
    have hBW:=Lib.hid hbw
    have f3:=pw_cell_below hbw f3
    have z0:=pw_cell_below hbw z0
    clear hbw
    have j6:(k:Int)<l.length:=by omega
    by_cases hjt:j<f.f3.length
    ·by_cases hz0:0≤z
     ·obtain ⟨ad3,v,rfl,hv,v0,v1,v2⟩:=visitAt hr3 j hjt
      have j7:(j:Int)<f.f3.length:=by omega
      have HX:=Lib.hid (fullV_step hv (c:=x) (l:=l) (s:=s) (x:=z))
      have hvb:=visitB_stay (HV.out.2.2.1 v (List.mem_of_getElem? hv))
      have v0:=pw_cell_below hBW.out v0
      have v1:=pw_cell_below hBW.out v1
      have v2:=pw_cell_below hBW.out v2
      have e0:decide ((j:Int)<f.f3.length)=true:=decide_eq_true j7
      have e1:decide (0≤z)=true:=decide_eq_true hz0
      have j8:IntKind.i64.wrap (z+v.f1)=z+v.f1:=IntWalk.i64_in _ (by omega)
      have g0:=(hb.cell (p:=⟨w.heap.size,0,none⟩) (by simp)).trans (show _=some (Value.string x.f0) by simp)
      have g1:=(hb.cell (p:=⟨w.heap.size,1,none⟩) (by simp)).trans (show _=some (Value.int .i64 x.f1) by simp)
      have q1:=After.cell (W:=wr.alloc (.cells #[.string v.f0, .int .i64 v.f1, .int .i64 v.f2] 52)) (a:=⟨wr.heap.size,0,none⟩) (v := .string v.f0) (by simp)
      have q2:=After.cell (W:=wr.alloc (.cells #[.string v.f0, .int .i64 v.f1, .int .i64 v.f2] 52)) (a:=⟨wr.heap.size,1,none⟩) (v := .int .i64 v.f1) (by simp)
      have q3:=After.cell (cell_al g0 (.cells #[.string v.f0, .int .i64 v.f1, .int .i64 v.f2] 52))
      have q4:=After.cell (cell_al g1 (.cells #[.string v.f0, .int .i64 v.f1, .int .i64 v.f2] 52))
      have q5:=After.cell (cell_al z0 (.cells #[.string v.f0, .int .i64 v.f1, .int .i64 v.f2] 52))
      have QA:=Lib.hid (fun (u:After (wr.alloc (.cells #[.string v.f0, .int .i64 v.f1, .int .i64 v.f2] 52))) t=>QL.out u.w t (below_next (hBW.out.alloc hBW.out.size _) (by simp;omega) u.hb))
      have hbA:=hb.alloc (by simpa using hsz) (.cells #[.string v.f0, .int .i64 v.f1, .int .i64 v.f2] 52)
      clear hv g0 g1
      by_cases hsec:v.f0=x.f0
      ·have e3:=str_same hsec
       have HS:=Lib.hid hsec
       clear hsec hvb
       by_cases hov:x.f1<(loadTo l s x.f0 (z+v.f1) l.length:Int)
       ·have e5:decide (x.f1<(loadTo l s x.f0 (z+v.f1) l.length:Int))=true:=decide_eq_true hov
        have HO:=Lib.hid hov
        clear hov
        go_wp2
        refine wp_region_after (by kernel_rfl) (by kernel_rfl) ?_
        repeat (go_big_quiet_step (first | (go_at_call 59;exact calls_after (QA.out _ _))))
        refine wpQuiet_nil ?_
        intro _ hw'
        obtain ⟨u,hw''⟩:=hw'
        subst hw''
        go_wp2
        go_ret
        exact ⟨ret_bool (by rw [hF.out,HT.out,fullP_hit hz0 (by rw [hG.out hz0,HX.out,fullV,decide_eq_true HS.out,decide_eq_true HO.out];rfl)];rfl),below_next (hBW.out.alloc hBW.out.size _) (by simp;omega) u.hb⟩
       ·have e5:decide (x.f1<(loadTo l s x.f0 (z+v.f1) l.length:Int))=false:=decide_eq_false hov
        have HO:=Lib.hid hov
        clear hov
        go_wp2
        refine wp_region_after (by kernel_rfl) (by kernel_rfl) ?_
        repeat (go_big_quiet_step (first | (go_at_call 59;exact calls_after (QA.out _ _))))
        refine wpQuiet_nil ?_
        intro _ hw'
        obtain ⟨u,hw''⟩:=hw'
        subst hw''
        go_wp2
        go_roundw
        case rel=>exact ⟨j+1,by omega,by go_num,fun h0=>by rw [hG.out h0,HX.out,fullV,decide_eq_false (Int.not_lt.2 HO.out),Bool.and_false];rfl,below_next hbA (by simp;omega) u.hb⟩
        case measure=>simp [intOf];omega
      ·have e3:=str_other hsec
       have HS:=Lib.hid hsec
       clear hsec hvb
       go_wp2
       refine wp_region_after (by kernel_rfl) (by kernel_rfl) ?_
       repeat (go_big_quiet_step (fail))
       refine wpQuiet_nil ?_
       intro _ hw'
       obtain ⟨u,hw''⟩:=hw'
       subst hw''
       go_wp2
       go_roundw
       case rel=>exact ⟨j+1,by omega,by go_num,fun h0=>by rw [hG.out h0,HX.out,fullV,decide_eq_false HS.out];rfl,below_next hbA (by simp;omega) u.hb⟩
       case measure=>simp [intOf];omega
     ·have e0:decide ((j:Int)<f.f3.length)=true:=decide_eq_true (by omega)
      have e1:decide (0≤z)=false:=decide_eq_false hz0
      have HZ:=Lib.hid hz0
      go_wp2
      go_roundw
      case rel=>exact ⟨k+1,by omega,by go_num,by show _=_;rw [hF.out,HT.out,fullP_skip (fun h0=>absurd h0 (by omega))];rfl,hb⟩
      case measure=>simp [intOf];omega
    ·have e0:decide ((j:Int)<f.f3.length)=false:=decide_eq_false (by omega)
     have he:j=f.f3.length:=by omega
     have HE:=Lib.hid he
     clear he
     go_wp2
     go_roundw
     case rel=>exact ⟨k+1,by omega,by go_num,by show _=_;rw [hF.out,HT.out,fullP_skip (fun h0=>by rw [hG.out h0,HE.out,List.drop_length];rfl)];rfl,hb⟩
     case measure=>simp [intOf];omega
  ·go_wp2
   go_ret
   obtain rfl:k=l.length:=by omega
   exact ⟨ret_bool (by rw [hF.out,List.drop_of_length_le (by simp;omega)];rfl),hBW.out⟩
set_option maxRecDepth 100000 in
set_option maxHeartbeats 4000000 in
theorem spec_fitsAll_any (A:Option Addr) (c:Nat) (caps:List Cap) (A1:Option Addr) (c1:Nat) (l:List Flight) (A2:Option Addr) (c2:Nat) (s:List Int) (w:World)
  (hr:Kd.C k80 w A caps.length caps) (hr1:Kd.C k45 w A1 l.length l) (hr2:Kd.C (Kd.int .i64) w A2 s.length s) :
  Calls Tryz.prog 88 #[.slice A caps.length c, .slice A1 l.length c1, .slice A2 s.length c2] w fun e w'=>e = .returned (.bool (fitsB caps l s))∧Below w.heap.size w w':=by
 have QC:=Lib.hid (spec_capsOk_any A c caps w hr (C_len hr))
 have QS:=Lib.hid (fun W (h:Below w.heap.size w W)=>spec_slotsOk_any A1 c1 l A2 c2 s W (Kd.C_below hr1 h) (Kd.C_below hr2 h))
 cases hc:capsB caps with
 | false =>
  go_enter Tryz.func88,Tryz.ntmps88
  go_wp2_with (first | (go_at_call 54;refine QC.out.mono ?_;rintro e w1 ⟨rfl,hb⟩;rw [hc]) | go_in)
  go_ret
  exact ⟨ret_bool (by simp [fitsB,hc]),hb⟩
 | true =>
 cases hs:slotsB l s with
 | false =>
  go_enter Tryz.func88,Tryz.ntmps88
  go_wp2_with (first
   | (go_at_call 54;refine QC.out.mono ?_;rintro e w1 ⟨rfl,hb⟩;rw [hc])
   | (go_at_call 57;refine (QS.out _ hb).mono ?_;rintro e w2 ⟨rfl,hb2⟩;rw [hs])
   | go_in)
  go_ret
  exact ⟨ret_bool (by simp [fitsB,hc,hs]),below_next hb hb.size hb2⟩
 | true =>
  obtain ⟨hfl,hlen,hsb⟩:=slotsB_parts hs
  obtain ⟨hl8,hfs,_⟩:=flightsB_parts hfl
  obtain ⟨hc6,_,_⟩:=capsB_parts hc
  have HB:Hid (fitsB caps l s=((l.zip s).all timeP && noneFull caps l s)):=by show _=_;simp [fitsB,timeB,hc,hs]
  have HL:=Lib.hid hlen
  have HFS:=Lib.hid hfs
  have HSB:=Lib.hid hsb
  have QI:=Lib.hid quiet_in
  have QF:=Lib.hid (fun W x (h:Below w.heap.size w W)=>spec_l2Full_any x A1 c1 l A2 c2 s W (Kd.C_below hr1 h) (Kd.C_below hr2 h) hs)
  have HC:=Lib.hid hc
  have HS:=Lib.hid hs
  clear hfl hlen hsb hfs
  go_enter Tryz.func88,Tryz.ntmps88
  go_wp2_with (first
   | (go_at_call 54;refine QC.out.mono ?_;rintro e w1 ⟨rfl,hb⟩;rw [HC.out])
   | (go_at_call 57;refine (QS.out _ hb).mono ?_;rintro e w2 ⟨rfl,hb2⟩;rw [HS.out];replace hb:=below_next hb hb.size hb2;clear hb2)
   | go_in)
  clear hc hs
  go_loopw [7] (fun v wr=>∃ k:Nat,k≤l.length∧v = .int .i64 k∧Hid ((l.zip s).all timeP=((l.zip s).drop k).all timeP)∧Below w.heap.size w wr) (fun v _=>l.length-(intOf v).toNat)
  case atStart=>exact ⟨0,Nat.zero_le _,rfl,rfl,hb⟩
  case round =>
   clear hb
   obtain ⟨k,hk,rfl,hF,hb⟩:=hrel
   by_cases hlt:k<l.length
   ·obtain ⟨ad2,z,rfl,hz,z0⟩:=intAt (Kd.C_below hr2 hb) k (by rw [HL.out];exact hlt)
    obtain ⟨ad,f,A3,c3,rfl,hf,f0,f1,f2,f3,hl3,hr3⟩:=flightAt (Kd.C_below hr1 hb) k hlt
    have j4:(k:Int)<l.length:=by omega
    have j5:(k:Int)<s.length:=by rw [HL.out];omega
    have HT:=Lib.hid (timeB_step hf hz)
    have hfb:=flightB_parts (HFS.out f (List.mem_of_getElem? hf))
    obtain ⟨_,b1,b2,b3,b4,_⟩:=hfb
    have j7:IntKind.i64.wrap (f.f1+f.f2)=f.f1+f.f2:=IntWalk.i64_in _ (by omega)
    clear b1 b2 b3 b4 hf hz hr3 hl3 f0 f3
    by_cases hi:0≤z
    ·have e1:decide (0≤z)=true:=decide_eq_true hi
     cases hin:inB z f.f1 (f.f1+f.f2) with
     | true =>
      have HI:=Lib.hid hin
      go_wp2
      go_quiet (first | (go_at_call 45;exact Calls.quiet_of_same (QI.out _ _ _ _)))
      go_wp2
      go_roundw
      case rel=>exact ⟨k+1,by omega,by go_num,by show _=_;rw [hF.out,HT.out,timeP,HI.out];simp,pw_below_drewN hb _⟩
      case measure=>simp [intOf];omega
     | false =>
      have HI:=Lib.hid hin
      go_wp2
      go_quiet (first | (go_at_call 45;exact Calls.quiet_of_same (QI.out _ _ _ _)))
      go_wp2
      go_ret
      exact ⟨ret_bool (by rw [HB.out,hF.out,HT.out,timeP,HI.out];simp [hi]),pw_below_drewN hb _⟩
    ·have e1:decide (0≤z)=false:=decide_eq_false hi
     have HI:=Lib.hid hi
     go_wp2
     go_quiet (fail)
     go_wp2
     go_roundw
     case rel=>exact ⟨k+1,by omega,by go_num,by show _=_;rw [hF.out,HT.out,timeP,decide_eq_false (Int.not_le.2 HI.out)];rfl,pw_below_drewN hb _⟩
     case measure=>simp [intOf];omega
   ·have he:k=l.length:=by omega
    have HT:Hid ((l.zip s).all timeP=true):=by show _=_;rw [hF.out,he,List.drop_of_length_le (by simp;omega)];rfl
    clear hF he
    go_wp2
    go_loopw [8] (fun v wr=>∃ j:Nat,j≤caps.length∧v = .int .i64 j∧Hid (noneFull caps l s=noneFull (caps.drop j) l s)∧Below w.heap.size w wr) (fun v _=>caps.length-(intOf v).toNat)
    case atStart=>exact ⟨0,Nat.zero_le _,rfl,rfl,hb⟩
    case round =>
     clear hb
     obtain ⟨j,hj,rfl,hG,hb⟩:=hrel
     by_cases hjt:j<caps.length
     ·obtain ⟨ad,x,rfl,hx,x0,x1⟩:=capAt (Kd.C_below hr hb) j hjt
      have j4:(j:Int)<caps.length:=by omega
      have HX:=Lib.hid (noneFull_step hx l s)
      clear hx
      cases hfu:fullB x l s with
      | true =>
       have HF:=Lib.hid hfu
       go_wp2_with (first | (go_at_call 119;refine (QF.out _ _ hb).mono ?_;rintro e w3 ⟨rfl,hb3⟩;rw [HF.out]) | go_in)
       go_ret
       exact ⟨ret_bool (by rw [HB.out,hG.out,HX.out,HF.out];simp),below_next hb hb.size hb3⟩
      | false =>
       have HF:=Lib.hid hfu
       go_wp2_with (first | (go_at_call 119;refine (QF.out _ _ hb).mono ?_;rintro e w3 ⟨rfl,hb3⟩;rw [HF.out]) | go_in)
       go_roundw
       case rel=>exact ⟨j+1,by omega,by go_num,by show _=_;rw [hG.out,HX.out,HF.out];rfl,below_next hb hb.size hb3⟩
       case measure=>simp [intOf];omega
     ·go_wp2
      go_ret
      obtain rfl:j=caps.length:=by omega
      exact ⟨ret_bool (by rw [HB.out,HT.out,hG.out,List.drop_length];rfl),hb⟩
theorem infoInt:(Tryz.prog.info? 3).map (fun i=>(i.zero,i.size,i.bytes))=some (some (.int .i64 0),1,8):=by kernel_rfl
theorem R_made {α:Type} {enc:α→Value} {h1:∀ x,(enc x).oneCell'=true} (w:World) (e:Nat):(Kd.scalar enc h1).R e (w.alloc (.cells #[] e)) w.heap.size (fun _=>True) (.slice (some ⟨w.heap.size,0,none⟩) 0 0) [] :=
 Kd.R_of_own (World.ownsRow_made w #[] 0 (Nat.le_refl _) (Nat.zero_le _) rfl) (fun _ _=>trivial)
set_option maxRecDepth 100000 in
set_option maxHeartbeats 2000000 in
theorem clone_ints_any (A:Option Addr) (c:Nat) (xs:List Int) (w:World) (hr:Kd.C (Kd.int .i64) w A xs.length xs) (hl:xs.length≤1048576) :
  Calls Tryz.prog 101 #[.slice A xs.length c] w fun e w'=>∃ v,e = .returned v∧Kd.R (Kd.int .i64) 3 w' w.heap.size (fun _=>True) v xs∧Below w.heap.size w w':=by
 have q:∀ (w:World) (a:Option Addr) (n c n' c':Nat),(binOp .eql 31 (.slice a n c) (.slice none n' c')).run Tryz.prog w = .ok (.bool a.isNone) w:=fun w a n c n' c'=>Lib.run_eql_slice_nil w _ _ a n c n' c' Tryz.underlying31
 cases A with
 | none =>
  have hx:xs=[]:=by
   rcases Nat.eq_zero_or_pos xs.length with h0 | h0
   ·exact List.eq_nil_of_length_eq_zero h0
   ·obtain ⟨ad,h,_⟩:=hr.2.2 h0;cases h
  subst hx
  go_enter Tryz.func101,Tryz.ntmps101
  go_wp2
  go_ret
  exact ⟨_,rfl,Kd.R_nil _ _ _ _ _,Below.refl _ _⟩
 | some ad =>
  go_enter Tryz.func101,Tryz.ntmps101
  go_wp2_with (first
   | (at_builtin;refine Kd.R_append_row (w0:=w) (Value.int .i64) 0 w.heap.size rfl _ _ 31 3 (.int .i64 0) 8 rfl Tryz.underlying31 infoInt rfl (by decide) _ [] xs (some ad) xs.length c (fun _=>True) rfl rfl (fun _ _=>trivial) (R_made w _) (Kd.C_below hr ((Below.refl _ _).alloc (Nat.le_refl _) _)) ((Below.refl _ _).alloc (Nat.le_refl _) _) (by simp) (by simp;omega) ?_;intro v1 w1 ho hb hg hat)
   | go_in)
  go_ret
  exact ⟨_,rfl,ho,hb⟩
theorem R_setN {e:Nat} {W:World} {base g n cap:Nat} {ok:Nat→Prop} {xs:List Int} (h:Kd.R (Kd.int .i64) e W base ok (.slice (some ⟨g,0,none⟩) n cap) xs) (k:Nat) (x:Int) :
  Kd.R (Kd.int .i64) e (W.setCell ⟨g,k,none⟩ (.int .i64 x)) base ok (.slice (some ⟨g,0,none⟩) n cap) (xs.set k x):=by
 have:=Kd.R_putn h (k:Int) x
 rwa [Int.toNat_natCast] at this
theorem R_cellN {e:Nat} {W:World} {base g n cap:Nat} {ok:Nat→Prop} {xs:List Int} (h:Kd.R (Kd.int .i64) e W base ok (.slice (some ⟨g,0,none⟩) n cap) xs) (k:Nat) (hk:k<n) :
  ∃ x,W.cell? ⟨g,k,none⟩=some (.int .i64 x)∧W.frozen? ⟨g,k,none⟩=false:=by
 have:=Kd.R_celln 0 h (k:Int) (by omega) (by omega)
 rw [Int.toNat_natCast] at this
 exact ⟨_,this.1,this.2⟩
theorem R_readC {α:Type} {d:Kd α} {e:Nat} {w:World} {base n cap:Nat} {ok:Nat→Prop} {A:Option Addr} {xs:List α} (h:d.R e w base ok (.slice A n cap) xs):d.C w A n xs:=by
 obtain ⟨A',c',e1,_,h1⟩:=Kd.R_reads h
 injection e1 with e1 e2 e3
 subst e1;subst e2
 exact h1
set_option maxRecDepth 100000 in
set_option maxHeartbeats 4000000 in
theorem impl_least_any (A:Option Addr) (c:Nat) (caps:List Cap) (A1:Option Addr) (c1:Nat) (l:List Flight) (A2:Option Addr) (c2:Nat) (s:List Int) (k:Nat) (f:Flight) (w:World)
  (hr:Kd.C k80 w A caps.length caps) (hr1:Kd.C k45 w A1 l.length l) (hr2:Kd.C (Kd.int .i64) w A2 s.length s) (hf:l[k]? = some f) (hcs:capsB caps=true) (hs:slotsB l s=true) :
  Calls Tryz.prog 80 #[.slice A caps.length c, .slice A1 l.length c1, .slice A2 s.length c2, .int .i64 k] w fun e w'=>e = .returned (.int .i64 (leastN caps l s k f))∧Below w.heap.size w w':=by
 obtain ⟨hfl,hlen,_⟩:=slotsB_parts hs
 obtain ⟨hl8,hfs,_⟩:=flightsB_parts hfl
 have hk:=some_lt hf
 have hks:k<s.length:=by omega
 have j4:(k:Int)<l.length:=by omega
 have j5:(k:Int)<s.length:=by omega
 have hcl:=C_len hr
 have hcl1:=C_len hr1
 obtain ⟨_,b1,b2,b3,b4,_⟩:=flightB_parts (hfs f (List.mem_of_getElem? hf))
 have j7:IntKind.i64.wrap (f.f1+f.f2)=f.f1+f.f2:=IntWalk.i64_in _ (by omega)
 obtain ⟨ad,f',A3,c3,rfl,hf',f0,f1,f2,f3,hl3,hr3⟩:=flightAt hr1 k hk
 obtain rfl:f=f':=Option.some.inj (hf.symm.trans hf')
 have QC:=Lib.hid (clone_ints_any A2 c2 s w hr2 (by omega))
 have qf:∀ (W:World) (g cap:Nat) (t:Int),-1≤t→t≤10060→Below w.heap.size w W→Kd.C (Kd.int .i64) W (some ⟨g,0,none⟩) s.length (s.set k t) →
   Calls Tryz.prog 114 #[.slice A caps.length c, .slice (some ad) l.length c1, .slice (some ⟨g,0,none⟩) s.length cap] W fun e w'=>e = .returned (.bool (noneFull caps l (s.set k t)))∧Below W.heap.size W w':=by
  intro W g cap t h0 h1 hb hx
  have:=impl_fits_any A c caps (some ad) c1 l (some ⟨g,0,none⟩) cap (s.set k t) W (Kd.C_below hr hb) (Kd.C_below hr1 hb) (by rwa [List.length_set]) hcs (slots_set hs k h0 h1)
  rwa [List.length_set] at this
 have QF:=Lib.hid qf
 clear qf hf hf' f0 f3 hl3 hr3 hfl hfs hcs hs hlen
 go_enter Tryz.func80,Tryz.ntmps80
 go_wp2_with (first
  | (go_at_call 101;refine QC.out.mono ?_;rintro e w1 ⟨v,rfl,ho,hb⟩;obtain ⟨g,cap,rfl,hg0,hg1,_⟩:=Kd.R_form ho (by omega);have f1a:=pw_cell_below hb f1)
  | go_in)
 go_loopw [10] (fun v wr=>∃ (n:Nat) (t:Int) (ys:List Int),v = .int .i64 t∧f.f1≤t∧t+n=f.f1+f.f2+1∧Hid (leastN caps l s k f=searchN (fun t=>noneFull caps l (s.set k t)) t n)∧Hid (∀ z,ys.set k z=s.set k z) ∧
  Hid (Kd.R (Kd.int .i64) 3 wr w.heap.size (fun _=>True) (.slice (some ⟨g,0,none⟩) s.length cap) ys)∧Below w.heap.size w wr) (fun v _=>(f.f1+f.f2+1-intOf v).toNat)
 case atStart=>exact ⟨f.f2.toNat+1,f.f1,s,rfl,Int.le_refl _,by omega,rfl,fun _=>rfl,ho,hb⟩
 case round =>
  clear hb ho f1a
  obtain ⟨n,t,ys,rfl,ht0,htn,hF,hY,hO,hb⟩:=hrel
  have f1a:=pw_cell_below hb f1
  have f2a:=pw_cell_below hb f2
  by_cases hlt:t≤f.f1+f.f2
  ·obtain ⟨n,rfl⟩:∃ m,n=m+1:=⟨n-1,by omega⟩
   have e1:decide (t≤f.f1+f.f2)=true:=decide_eq_true hlt
   obtain ⟨x,x0,xf⟩:=R_cellN hO.out k hks
   have HN:Hid (∀ m,Kd.R (Kd.int .i64) 3 ((wr.drewN m).setCell ⟨g,k,none⟩ (.int .i64 t)) w.heap.size (fun _=>True) (.slice (some ⟨g,0,none⟩) s.length cap) (s.set k t)):=fun m=>by
    rw [← hY.out t];exact R_setN (Kd.R_drewN hO.out m) k t
   cases hnf:noneFull caps l (s.set k t) with
   | true =>
    have HF:=Lib.hid hnf
    go_wp2
    go_quiet (fail)
    go_wp2_with (first
     | (go_at_call 114;refine (QF.out _ _ _ t (by omega) (by omega) (below_set (pw_below_drewN hb _) hg0) (R_readC (HN.out _))).mono ?_;rintro e w3 ⟨rfl,hb3⟩;rw [HF.out])
     | go_in)
    go_ret
    exact ⟨ret_int (by rw [hF.out,search_hit (p:=fun t=>noneFull caps l (s.set k t)) HF.out]),below_next (below_set (pw_below_drewN hb _) hg0) (below_set (j:=k) (v := .int .i64 t) (pw_below_drewN hb _) hg0).size hb3⟩
   | false =>
    have HF:=Lib.hid hnf
    go_wp2
    go_quiet (fail)
    go_wp2_with (first
     | (go_at_call 114;refine (QF.out _ _ _ t (by omega) (by omega) (below_set (pw_below_drewN hb _) hg0) (R_readC (HN.out _))).mono ?_;rintro e w3 ⟨rfl,hb3⟩;rw [HF.out])
     | go_in)
    go_roundw
    case rel=>exact ⟨n,t+1,s.set k t,by go_num,by omega,by omega,by show _=_;rw [hF.out,search_miss (p:=fun t=>noneFull caps l (s.set k t)) HF.out],fun z=>by rw [List.set_set],Kd.R_below (HN.out _) hb3,below_next (below_set (pw_below_drewN hb _) hg0) (below_set (j:=k) (v := .int .i64 t) (pw_below_drewN hb _) hg0).size hb3⟩
    case measure=>simp [intOf];omega
  ·have e1:decide (t≤f.f1+f.f2)=false:=decide_eq_false hlt
   obtain rfl:n=0:=by omega
   go_wp2
   go_quiet (fail)
   go_wp2
   go_ret
   exact ⟨ret_int (by rw [hF.out];rfl),pw_below_drewN hb _⟩
set_option maxRecDepth 100000 in
set_option maxHeartbeats 4000000 in
theorem spec_least_any (A:Option Addr) (c:Nat) (caps:List Cap) (A1:Option Addr) (c1:Nat) (l:List Flight) (A2:Option Addr) (c2:Nat) (s:List Int) (k:Nat) (f:Flight) (w:World)
  (hr:Kd.C k80 w A caps.length caps) (hr1:Kd.C k45 w A1 l.length l) (hr2:Kd.C (Kd.int .i64) w A2 s.length s) (hf:l[k]? = some f) (hcs:capsB caps=true) (hs:slotsB l s=true) (ht:timeB l s=true) :
  Calls Tryz.prog 50 #[.slice A caps.length c, .slice A1 l.length c1, .slice A2 s.length c2, .int .i64 k] w fun e w'=>e = .returned (.int .i64 (leastN caps l s k f))∧Below w.heap.size w w':=by
 obtain ⟨hfl,hlen,_⟩:=slotsB_parts hs
 obtain ⟨hl8,hfs,_⟩:=flightsB_parts hfl
 have hk:=some_lt hf
 have hks:k<s.length:=by omega
 have j4:(k:Int)<l.length:=by omega
 have j5:(k:Int)<s.length:=by omega
 have hcl:=C_len hr
 have hcl1:=C_len hr1
 obtain ⟨_,b1,b2,b3,b4,_⟩:=flightB_parts (hfs f (List.mem_of_getElem? hf))
 have j7:IntKind.i64.wrap (f.f1+f.f2)=f.f1+f.f2:=IntWalk.i64_in _ (by omega)
 obtain ⟨ad,f',A3,c3,rfl,hf',f0,f1,f2,f3,hl3,hr3⟩:=flightAt hr1 k hk
 obtain rfl:f=f':=Option.some.inj (hf.symm.trans hf')
 have hs8:s.length≤8:=by omega
 have HR2:=Lib.hid (Kd.C_below hr2 ((Below.refl w.heap.size w).alloc (Nat.le_refl _) (.cells #[] 3)))
 have qf:∀ (W:World) (g cap:Nat) (t:Int),f.f1≤t→t≤f.f1+f.f2→Below w.heap.size w W→Kd.C (Kd.int .i64) W (some ⟨g,0,none⟩) s.length (s.set k t) →
   Calls Tryz.prog 88 #[.slice A caps.length c, .slice (some ad) l.length c1, .slice (some ⟨g,0,none⟩) s.length cap] W fun e w'=>e = .returned (.bool (noneFull caps l (s.set k t)))∧Below W.heap.size W w':=by
  intro W g cap t h0 h1 hb hx
  have:=spec_fitsAll_any A c caps (some ad) c1 l (some ⟨g,0,none⟩) cap (s.set k t) W (Kd.C_below hr hb) (Kd.C_below hr1 hb) (by rwa [List.length_set])
  rwa [List.length_set,fits_set hcs hs ht k hf h0 h1] at this
 have QF:=Lib.hid qf
 clear qf hf hf' ht f0 f3 hl3 hr3 hfl hfs hcs hs hlen
 go_enter Tryz.func50,Tryz.ntmps50
 go_wp2_with (first
  | (at_builtin;refine Kd.R_append_row (w0:=w) (Value.int .i64) 0 w.heap.size rfl _ _ 31 3 (.int .i64 0) 8 rfl Tryz.underlying31 infoInt rfl (by decide) _ [] s A2 s.length c2 (fun _=>True) rfl rfl (fun _ _=>trivial) (R_made w _) HR2.out ((Below.refl _ _).alloc (Nat.le_refl _) _) (by simp) (by simp;omega) ?_;intro v1 w1 ho hb hg hat;have ho:Kd.R (Kd.int .i64) 3 w1 w.heap.size (fun _=>True) v1 s:=ho;clear hg hat;obtain ⟨g,cap,rfl,hg0,hg1,_⟩:=Kd.R_form ho (by omega);have f1a:=pw_cell_below hb f1)
  | go_in)
 go_loopw [10] (fun v wr=>∃ (n:Nat) (t:Int) (ys:List Int),v = .int .i64 t∧f.f1≤t∧t+n=f.f1+f.f2+1∧Hid (leastN caps l s k f=searchN (fun t=>noneFull caps l (s.set k t)) t n)∧Hid (∀ z,ys.set k z=s.set k z) ∧
  Hid (Kd.R (Kd.int .i64) 3 wr w.heap.size (fun _=>True) (.slice (some ⟨g,0,none⟩) s.length cap) ys)∧Below w.heap.size w wr) (fun v _=>(f.f1+f.f2+1-intOf v).toNat)
 case atStart=>exact ⟨f.f2.toNat+1,f.f1,s,rfl,Int.le_refl _,by omega,rfl,fun _=>rfl,ho,hb⟩
 case round =>
  clear hb ho f1a
  obtain ⟨n,t,ys,rfl,ht0,htn,hF,hY,hO,hb⟩:=hrel
  have f1a:=pw_cell_below hb f1
  have f2a:=pw_cell_below hb f2
  by_cases hlt:t≤f.f1+f.f2
  ·obtain ⟨n,rfl⟩:∃ m,n=m+1:=⟨n-1,by omega⟩
   have e1:decide (t≤f.f1+f.f2)=true:=decide_eq_true hlt
   obtain ⟨x,x0,xf⟩:=R_cellN hO.out k hks
   have HN:Hid (∀ m,Kd.R (Kd.int .i64) 3 ((wr.drewN m).setCell ⟨g,k,none⟩ (.int .i64 t)) w.heap.size (fun _=>True) (.slice (some ⟨g,0,none⟩) s.length cap) (s.set k t)):=fun m=>by
    rw [← hY.out t];exact R_setN (Kd.R_drewN hO.out m) k t
   cases hnf:noneFull caps l (s.set k t) with
   | true =>
    have HF:=Lib.hid hnf
    go_wp2
    go_quiet (fail)
    go_wp2_with (first
     | (go_at_call 88;refine (QF.out _ _ _ t (by omega) (by omega) (below_set (pw_below_drewN hb _) hg0) (R_readC (HN.out _))).mono ?_;rintro e w3 ⟨rfl,hb3⟩;rw [HF.out])
     | go_in)
    go_ret
    exact ⟨ret_int (by rw [hF.out,search_hit (p:=fun t=>noneFull caps l (s.set k t)) HF.out]),below_next (below_set (pw_below_drewN hb _) hg0) (below_set (j:=k) (v := .int .i64 t) (pw_below_drewN hb _) hg0).size hb3⟩
   | false =>
    have HF:=Lib.hid hnf
    go_wp2
    go_quiet (fail)
    go_wp2_with (first
     | (go_at_call 88;refine (QF.out _ _ _ t (by omega) (by omega) (below_set (pw_below_drewN hb _) hg0) (R_readC (HN.out _))).mono ?_;rintro e w3 ⟨rfl,hb3⟩;rw [HF.out])
     | go_in)
    go_roundw
    case rel=>exact ⟨n,t+1,s.set k t,by go_num,by omega,by omega,by show _=_;rw [hF.out,search_miss (p:=fun t=>noneFull caps l (s.set k t)) HF.out],fun z=>by rw [List.set_set],Kd.R_below (HN.out _) hb3,below_next (below_set (pw_below_drewN hb _) hg0) (below_set (j:=k) (v := .int .i64 t) (pw_below_drewN hb _) hg0).size hb3⟩
    case measure=>simp [intOf];omega
  ·have e1:decide (t≤f.f1+f.f2)=false:=decide_eq_false hlt
   obtain rfl:n=0:=by omega
   go_wp2
   go_quiet (fail)
   go_wp2
   go_ret
   exact ⟨ret_int (by rw [hF.out];rfl),pw_below_drewN hb _⟩
end Go.Proofs.YthcpbojmalgdbaaGreatDoor.Q
