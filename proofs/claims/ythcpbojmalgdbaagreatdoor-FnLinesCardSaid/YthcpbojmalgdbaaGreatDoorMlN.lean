/- Merged out of this seat's own texts. -/
import Derived.Test.YthcpbojmalgdbaaGreatDoorMlM
import Derived.BigRegion
import Derived.Shelf.Strings.Builder1
import Derived.Shelf.Strings.Builder2
import Derived.Shelf.Strings.OnBuilder
import Derived.Shelf.Small.Bits
import Derived.Shelf.Strconv.Atoi
import Derived.Shelf.Strconv.Itoa0
import Derived.Shelf.Strconv.Itoa1
import Derived.Shelf.LaysM
import Derived.Shelf.Strconv.Itoa2
import Derived.Shelf.Strconv.Itoa3
import Derived.Shelf.Strings.Search1
import Derived.Shelf.Strings.Search2
import Derived.Shelf.Strings.Search3
import Derived.Shelf.Strings.Count
import Derived.Shelf.Strings.Shaped
import Derived.Shelf.Sort.Plain
import Derived.Ground.GgsProg
import Derived.Shelf.GgSortFunc.Insertion
import Derived.Shelf.GgSortFunc.Tiny
import Derived.Shelf.GgSortFunc.Compose
import Derived.Ground.GgtProg
import Derived.Shelf.GgSortMore.Stable
import Derived.Shelf.Strings.Split
import Derived.Shelf.Unicode.DecodeSlow
import Derived.Shelf.Slices.In.SortNone
import Derived.Shelf.Slices.In.SortNone2
import Derived.Test.YthcpbojmalgdbaaGreatDoorProg
import Derived.Test.YthcpbojmalgdbaaGreatDoorMlC
import Derived.Sort.OwnSortedInts
set_option linter.unusedVariables false
set_option linter.unusedSimpArgs false
namespace Go.Proofs.YthcpbojmalgdbaaGreatDoor.Q
open Go.RowKit Go.Proofs.YthcpbojmalgdbaaGreatDoorW.PrintWords Go.Proofs.YthcpbojmalgdbaaGreatDoor.Core
section
variable {P:Program} {ops:Array Oper} {o:Oper} {a:Act} {Q:Exit→Act→World→Prop} {Kc:Act→World→Prop}
theorem ints_append_step {w0 W:World} (base:Nat) (hw:Region.wanted o (yielded ops a.tmps)=true) (s x:Operand) (t e:TypeId)
  (ho:o.op = .call { callee := .builtin .append,args := #[s,x],argTypes := #[t,t] })
  (ht:P.underlying t=some (.slice e)) (hinfo:(P.info? e).map (fun i=>(i.zero,i.size,i.bytes))=some (some (.int .i64 0),1,8))
  (v:Value) (xs ys:List Int) (A:Option Addr) (m c:Nat) (hs:a.eval s=v) (hx:a.eval x = .slice A m c)
  (HO:Kd.R (Kd.int .i64) e W base (fun _=>True) v xs) (HR:Kd.C (Kd.int .i64) W A m ys) (HB:Below base w0 W) (hbase:base≤W.heap.size) (hl:xs.length+m≤1048576) (hv:v.ownBlock≠none)
  (h:∀ v1 w1,Kd.R (Kd.int .i64) e w1 base (fun _=>True) v1 (xs++ys)→Below base w0 w1→W.grownBy w1 v.ownBlock→v1.ownBlock≠none→Kc (a.put o.dst v1) w1) :
  if Region.wanted o (yielded ops a.tmps)=true then Oper.wp P o a W Kc Q else Kc (a.put o.dst undef) W :=
 Kd.R_append_rows_step (Kd.int .i64) (w0:=w0) base hw s x t e (.int .i64 0) 8 ho ht hinfo rfl (by decide) (by decide) v xs ys A m c (fun _=>True) (fun _=>False) hs hx HO HR (fun _ _ h=>h) (fun _ h=>h.elim) (fun _ _=>trivial) HB hbase (by omega)
  (fun v1 w1 h1 h2 h3 h4=>h v1 w1 h1 h2 h3 (by
   rcases h4 with h4 | ⟨b,h4,_⟩
   ·rw [h4];exact hv
   ·rw [h4];simp))
end
theorem C_one {w:World} {g:Nat} {t:Int} (h:w.cell? ⟨g,0,none⟩=some (.int .i64 t)):Kd.C (Kd.int .i64) w (some ⟨g,0,none⟩) 1 [t]:=by
 refine ⟨rfl,by decide,fun _=>⟨_,rfl,fun j p hj => ?_⟩⟩
 have hj0:j=0:=by have:=some_lt hj;simpa using this
 subst hj0
 obtain rfl:t=p:=by simpa using hj
 refine ⟨[.int .i64 t],rfl,rfl,fun i u hi => ?_⟩
 have hi0:i=0:=by have:=some_lt hi;simpa using this
 subst hi0
 obtain rfl:Value.int .i64 t=u:=by simpa using hi
 exact h
theorem C_takeN {w:World} {A:Option Addr} {xs:List Int} {j:Nat} (h:Kd.C (Kd.int .i64) w A xs.length xs) (hj:j≤xs.length):Kd.C (Kd.int .i64) w A j (xs.take j):=by
 have:=Kd.C_take h hj
 rwa [List.length_take,Nat.min_eq_left hj] at this
theorem C_dropN {w:World} {ad:Addr} {xs:List Int} {j c:Nat} (h:Kd.C (Kd.int .i64) w (some ad) xs.length xs) (hj:j≤xs.length) (hc:xs.length≤c):Kd.C (Kd.int .i64) w (if c=j then some ad else some (ad.add j)) (xs.length-j) (xs.drop j):=by
 have:=Kd.C_drop h hj hc
 rw [List.length_drop] at this
 have e:(Option.map (fun x=>x.add (j*(Kd.int .i64).sz)) (some ad))=some (ad.add j):=by
  show some (ad.add (j*1))=_
  rw [Nat.mul_one]
 rwa [e] at this
theorem own_some {A:Option Addr} {n c:Nat} (h:(Value.slice A n c).ownBlock≠none):∃ ad,A=some ad:=by
 cases A with
 | none=>exact absurd rfl h
 | some ad=>exact ⟨ad,rfl⟩
end Go.Proofs.YthcpbojmalgdbaaGreatDoor.Q
namespace Go.Proofs
open Go.Shelf
def Tryz.lays191_ren:Go.Shelf.Ren:=⟨fun | 191=>83 | 189=>115 | 125=>140 | 257=>139 | 128=>175 | 129=>176 | 294=>166 | 295=>167 | 296=>168 | 297=>169 | 298=>170 | 299=>171 | 216=>172 | 300=>173 | 301=>174 | 328=>186 | 329=>187 | 330=>188 | 331=>189 | 332=>190 | 215=>191 | 343=>195 | n=>n,fun | 28=>31 | 0=>0 | 3=>3 | 46=>137 | 51=>173 | 53=>162 | 4=>4 | 183=>189 | 182=>188 | 131=>69 | 5=>5 | 9=>9 | 218=>204 | 222=>208 | 228=>210 | 229=>92 | n=>n,fun | n=>n⟩
theorem Tryz.lays191:Go.Proofs.Lays.n191 Tryz.prog Tryz.lays191_ren := {
 mixed:=by kernel_rfl
 f125:=Tryz.func140.trans (congrArg some (by kernel_rfl))
 f128:=Tryz.func175.trans (congrArg some (by kernel_rfl))
 f129:=Tryz.func176.trans (congrArg some (by kernel_rfl))
 f189:=Tryz.func115.trans (congrArg some (by kernel_rfl))
 f191:=Tryz.func83.trans (congrArg some (by kernel_rfl))
 f215:=Tryz.func191.trans (congrArg some (by kernel_rfl))
 f216:=Tryz.func172.trans (congrArg some (by kernel_rfl))
 f257:=Tryz.func139.trans (congrArg some (by kernel_rfl))
 f294:=Tryz.func166.trans (congrArg some (by kernel_rfl))
 f295:=Tryz.func167.trans (congrArg some (by kernel_rfl))
 f296:=Tryz.func168.trans (congrArg some (by kernel_rfl))
 f297:=Tryz.func169.trans (congrArg some (by kernel_rfl))
 f298:=Tryz.func170.trans (congrArg some (by kernel_rfl))
 f299:=Tryz.func171.trans (congrArg some (by kernel_rfl))
 f300:=Tryz.func173.trans (congrArg some (by kernel_rfl))
 f301:=Tryz.func174.trans (congrArg some (by kernel_rfl))
 f328:=Tryz.func186.trans (congrArg some (by kernel_rfl))
 f329:=Tryz.func187.trans (congrArg some (by kernel_rfl))
 f330:=Tryz.func188.trans (congrArg some (by kernel_rfl))
 f331:=Tryz.func189.trans (congrArg some (by kernel_rfl))
 f332:=Tryz.func190.trans (congrArg some (by kernel_rfl))
 f343:=Tryz.func195.trans (congrArg some (by kernel_rfl))
 t0:=Tryz.underlying0
 a0:=Tryz.isAgg0
 z0:=Tryz.sizeOf0
 v0:=Tryz.zeroValue0
 t3:=Tryz.underlying3
 a3:=Tryz.isAgg3
 z3:=Tryz.sizeOf3
 v3:=Tryz.zeroValue3
 t4:=Tryz.underlying4
 a4:=Tryz.isAgg4
 z4:=Tryz.sizeOf4
 v4:=Tryz.zeroValue4
 t5:=Tryz.underlying5
 a5:=Tryz.isAgg5
 z5:=Tryz.sizeOf5
 v5:=Tryz.zeroValue5
 t9:=Tryz.underlying9
 a9:=Tryz.isAgg9
 z9:=Tryz.sizeOf9
 v9:=Tryz.zeroValue9
 t28:=Tryz.underlying31
 a28:=Tryz.isAgg31
 z28:=Tryz.sizeOf31
 v28:=Tryz.zeroValue31
 t46:=Tryz.underlying137
 a46:=Tryz.isAgg137
 z46:=Tryz.sizeOf137
 v46:=Tryz.zeroValue137
 t51:=Tryz.underlying173
 a51:=Tryz.isAgg173
 z51:=Tryz.sizeOf173
 v51:=Tryz.zeroValue173
 t53:=Tryz.underlying162
 a53:=Tryz.isAgg162
 z53:=Tryz.sizeOf162
 v53:=Tryz.zeroValue162
 t131:=Tryz.underlying69
 a131:=Tryz.isAgg69
 z131:=Tryz.sizeOf69
 v131:=Tryz.zeroValue69
 t182:=Tryz.underlying188
 a182:=Tryz.isAgg188
 z182:=Tryz.sizeOf188
 v182:=Tryz.zeroValue188
 t183:=Tryz.underlying189
 a183:=Tryz.isAgg189
 z183:=Tryz.sizeOf189
 v183:=Tryz.zeroValue189
 t218:=Tryz.underlying204
 a218:=Tryz.isAgg204
 z218:=Tryz.sizeOf204
 v218:=Tryz.zeroValue204
 t222:=Tryz.underlying208
 a222:=Tryz.isAgg208
 z222:=Tryz.sizeOf208
 v222:=Tryz.zeroValue208
 t228:=Tryz.underlying210
 a228:=Tryz.isAgg210
 z228:=Tryz.sizeOf210
 v228:=Tryz.zeroValue210
 t229:=Tryz.underlying92
 a229:=Tryz.isAgg92
 z229:=Tryz.sizeOf92
 v229:=Tryz.zeroValue92 }
open Go.Sort Go.RowKit in
theorem Tryz.sort_Ints (blk off cap:Nat) (zs:List Int) (w:World) (hH:Holds (Value.int .i64) w blk off zs.toArray) (hblk:blk<w.heap.size) (hsz:zs.length<4611686018427387904) :
  Calls Tryz.prog 83 #[.slice (some ⟨blk,off,none⟩) zs.length cap] w fun e w' =>
   e = .returned (.tuple #[])∧∃ n os,w'=grow (putRow (Value.int .i64) (Sort.ahead w n) blk off (zs.mergeSort fun x y=>decide (x≤y)).toArray) os:=Any.sort_Ints Tryz.lays191 blk off cap zs w hH hblk hsz
open Go.RowKit Go.Sort in
theorem Tryz.sort_Ints_none (p:Option Addr) (cap:Nat) (w:World) :
  Calls Tryz.prog 83 #[.slice p 0 cap] w fun e w'=>e = .returned (.tuple #[])∧w'=w:=Any.sort_Ints_none Tryz.lays191 p cap w
end Go.Proofs
namespace Go.Proofs.YthcpbojmalgdbaaGreatDoor.Q
open Go.RowKit Go.Proofs.YthcpbojmalgdbaaGreatDoorW.PrintWords Go.Proofs.YthcpbojmalgdbaaGreatDoor.Core
def sortL (xs:List Int):List Int:=xs.mergeSort fun x y=>decide (x≤y)
theorem sortL_length (xs:List Int):(sortL xs).length=xs.length:=List.length_mergeSort xs
theorem sortInts_any (v:Value) (xs:List Int) (w:World) (base:Nat) (hl:xs.length≤1048576) (h:Kd.R (Kd.int .i64) 3 w base (fun _=>True) v xs) (hbase:base≤w.heap.size) :
  Calls Tryz.prog 83 #[v] w fun e w'=>e = .returned (.tuple #[])∧Kd.R (Kd.int .i64) 3 w' base (fun _=>True) v (sortL xs)∧Below base w w'∧w.grownBy w' v.ownBlock:=by
 have ho:=Kd.own_of_R h
 rcases ho.2 with ⟨rfl,h0⟩ | ⟨g,cap,cur,rfl,hg,hb,hnc,hcm,hcs,htk⟩
 ·obtain rfl:xs=[]:=List.eq_nil_of_length_eq_zero h0
  refine (Tryz.sort_Ints_none none 0 w).mono ?_
  rintro e w' ⟨rfl,rfl⟩
  exact ⟨rfl,by simpa [sortL] using h,Below.refl _ _,World.grownBy.refl _ _⟩
 ·have htk':cur.toList.take xs.length=xs.map (Value.int .i64):=by simpa [encs] using htk
  refine (Tryz.sort_Ints g 0 cap xs w (holds_of_blockI hb htk') (Array.getElem?_eq_some_iff.1 hb).1 (by omega)).mono ?_
  rintro e w' ⟨rfl,n,os,rfl⟩
  have hgr:w.grownBy (Go.Sort.grow (Go.Sort.putRow (Value.int .i64) (Go.Sort.ahead w n) g 0 (xs.mergeSort fun x y=>decide (x≤y)).toArray) os) (some g):=grownBy_sortedI _
  refine ⟨rfl,?_,(Below.refl _ w).grown hgr hbase (fun k hk=>by cases hk;exact hg),by simpa [Value.ownBlock] using hgr⟩
  have hs:=ownsRow_sortedI (n:=n) (os:=os) (base:=base) (ss:=xs) (ts:=sortL xs) (sortL_length xs) hg hb hnc hcm (by simpa using hcs)
  refine Kd.R_of_own ?_ (fun _ _=>trivial)
  rw [sortL_length]
  exact hs
theorem firstOf_step {vs:List Visit} {k:Nat} {v:Visit} (h:vs[k]? = some v) (p:Int) (sec:ByteArray):firstOf p sec (vs.drop k)=if v.f0=sec then p+v.f1 else firstOf p sec (vs.drop (k+1)):=by
 have hk:=some_lt h
 rw [List.drop_eq_getElem_cons hk]
 rw [List.getElem?_eq_getElem hk] at h
 rw [Option.some.inj h]
 rfl
theorem capOf_step {l:List Cap} {k:Nat} {c:Cap} (h:l[k]? = some c) (sec:ByteArray):capOf sec (l.drop k)=if c.f0=sec then c.f1 else capOf sec (l.drop (k+1)):=by
 have hk:=some_lt h
 rw [List.drop_eq_getElem_cons hk]
 rw [List.getElem?_eq_getElem hk] at h
 rw [Option.some.inj h]
 rfl
set_option maxRecDepth 100000 in
set_option maxHeartbeats 2000000 in
theorem spec_first_any (f:Flight) (A3:Option Addr) (c3:Nat) (sec:ByteArray) (w:World) (hr:Kd.C k52 w A3 f.f3.length f.f3) (hf:flightB f=true) :
  Calls Tryz.prog 93 #[.agg #[.string f.f0, .int .i64 f.f1, .int .i64 f.f2, .slice A3 f.f3.length c3], .string sec] w fun e w'=>e = .returned (.int .i64 (firstOf f.f1 sec f.f3))∧Below w.heap.size w w':=by
 obtain ⟨_,b1,b2,_,_,hv⟩:=flightB_parts hf
 obtain ⟨f0,f1,f2,vs⟩:=f
 simp only at hr hv b1 b2 ⊢
 obtain ⟨_,hv5,hvs,_⟩:=visitsB_parts hv
 have HV:=Lib.hid hvs
 clear hvs hv hf
 go_enter Tryz.func93,Tryz.ntmps93
 go_wp2
 go_loopw [5] (fun v wr=>∃ k:Nat,k≤vs.length∧v = .int .i64 k∧Hid (firstOf f1 sec vs=firstOf f1 sec (vs.drop k))∧Below (w.heap.size+1) (w.alloc (.cells #[.string f0, .int .i64 f1, .int .i64 f2, .slice A3 vs.length c3] 45)) wr) (fun v _=>vs.length-(intOf v).toNat)
 case atStart=>exact ⟨0,Nat.zero_le _,rfl,rfl,Below.refl _ _⟩
 case round =>
  obtain ⟨k,hk,rfl,hF,hb⟩:=hrel
  have hBW:=Lib.hid (((Below.refl _ _).alloc (Nat.le_refl _) _).trans (hb.mono (by omega)):Below w.heap.size w wr)
  have g1:=(hb.cell (p:=⟨w.heap.size,1,none⟩) (by simp)).trans (show _=some (Value.int .i64 f1) by simp)
  have g3:=(hb.cell (p:=⟨w.heap.size,3,none⟩) (by simp)).trans (show _=some (Value.slice A3 vs.length c3) by simp)
  by_cases hlt:k<vs.length
  ·obtain ⟨ad3,v,rfl,hx,v0,v1,v2⟩:=visitAt (Kd.C_below hr hBW.out) k hlt
   have j6:(k:Int)<vs.length:=by omega
   have HX:=Lib.hid (firstOf_step hx f1 sec)
   have hvb:=visitB_stay (HV.out v (List.mem_of_getElem? hx))
   clear hx v2
   by_cases hsec:v.f0=sec
   ·have e3:=str_same hsec
    have HS:=Lib.hid hsec
    clear hsec
    have j7:IntKind.i64.wrap (f1+v.f1)=f1+v.f1:=IntWalk.i64_in _ (by omega)
    go_wp2
    go_quiet (fail)
    go_wp2
    go_ret
    exact ⟨ret_int (by rw [hF.out,HX.out,if_pos HS.out]),pw_below_drewN hBW.out _⟩
   ·have e3:=str_other hsec
    have HS:=Lib.hid hsec
    clear hsec
    go_wp2
    go_roundw
    case rel=>exact ⟨k+1,by omega,by go_num,by show _=_;rw [hF.out,HX.out,if_neg HS.out],hb⟩
    case measure=>simp [intOf];omega
  ·go_wp2
   go_ret
   obtain rfl:k=vs.length:=by omega
   exact ⟨ret_int (by rw [hF.out,List.drop_length];rfl),hBW.out⟩
set_option maxRecDepth 100000 in
set_option maxHeartbeats 2000000 in
theorem spec_l5Cap_any (A:Option Addr) (c:Nat) (l:List Cap) (sec:ByteArray) (w:World) (hr:Kd.C k80 w A l.length l) :
  Calls Tryz.prog 60 #[.slice A l.length c, .string sec] w fun e w'=>e = .returned (.int .i64 (capOf sec l))∧Below w.heap.size w w':=by
 have hn:=C_len hr
 go_enter Tryz.func60,Tryz.ntmps60
 go_wp2
 go_loopw [5] (fun v wr=>∃ k:Nat,k≤l.length∧v = .int .i64 k∧Hid (capOf sec l=capOf sec (l.drop k))∧Below w.heap.size w wr) (fun v _=>l.length-(intOf v).toNat)
 case atStart=>exact ⟨0,Nat.zero_le _,rfl,rfl,Below.refl _ _⟩
 case round =>
  obtain ⟨k,hk,rfl,hF,hb⟩:=hrel
  by_cases hlt:k<l.length
  ·obtain ⟨ad,x,rfl,hx,x0,x1⟩:=capAt (Kd.C_below hr hb) k hlt
   have j6:(k:Int)<l.length:=by omega
   have HX:=Lib.hid (capOf_step hx sec)
   clear hx
   by_cases hsec:x.f0=sec
   ·have e3:=str_same hsec
    have HS:=Lib.hid hsec
    clear hsec
    go_wp2
    go_ret
    exact ⟨ret_int (by rw [hF.out,HX.out,if_pos HS.out]),hb⟩
   ·have e3:=str_other hsec
    have HS:=Lib.hid hsec
    clear hsec
    go_wp2
    go_roundw
    case rel=>exact ⟨k+1,by omega,by go_num,by show _=_;rw [hF.out,HX.out,if_neg HS.out],hb⟩
    case measure=>simp [intOf];omega
  ·go_wp2
   go_ret
   obtain rfl:k=l.length:=by omega
   exact ⟨ret_int (by rw [hF.out,List.drop_length];rfl),hb⟩
set_option maxRecDepth 100000 in
set_option maxHeartbeats 600000 in
theorem spec_sorted_any (A:Option Addr) (c:Nat) (l:List Flight) (sec:ByteArray) (w:World) (hr:Kd.C k45 w A l.length l) (hl:flightsB l=true) :
  Calls Tryz.prog 61 #[.slice A l.length c, .string sec] w fun e w'=>∃ v,e = .returned v∧Kd.R (Kd.int .i64) 3 w' w.heap.size (fun _=>True) v (sortedTo sec l l.length)∧Below w.heap.size w w':=by
 obtain ⟨hl8,hfs,_⟩:=flightsB_parts hl
 have HFS:=Lib.hid hfs
 clear hfs hl
 go_enter Tryz.func61,Tryz.ntmps61
 go_wp2
 go_loopw [5,6] (fun o v wr=>∃ k:Nat,k≤l.length∧v = .int .i64 k∧(sortedTo sec l k).length≤k∧Hid (Kd.R (Kd.int .i64) 3 wr w.heap.size (fun _=>True) o (sortedTo sec l k))∧Hid (o.ownBlock≠none)∧Below w.heap.size w wr) (fun _ v _=>l.length-(intOf v).toNat)
 case atStart=>exact ⟨0,Nat.zero_le _,rfl,by simp [sortedTo,comesOf],R_made w _,(fun h=>by simp [Value.ownBlock] at h),(Below.refl _ _).alloc (Nat.le_refl _) _⟩
 case round =>
  obtain ⟨k,hk,rfl,hsl,hO,hNN,hb⟩:=hrel
  have hwl:=hb.size
  by_cases hlt:k<l.length
  ·obtain ⟨ad,f,A3,c3,rfl,hf,f0,f1,f2,f3,hl3,hr3⟩:=flightAt (Kd.C_below hr hb) k hlt
   have j4:(k:Int)<l.length:=by omega
   have HX:=Lib.hid (sorted_step hf sec)
   have QF:=Lib.hid (spec_first_any f A3 c3 sec wr hr3 (HFS.out f (List.mem_of_getElem? hf)))
   clear hf hl3 hr3
   obtain ⟨t,ht⟩:∃ t,t=firstOf f.f1 sec f.f3:=⟨_,rfl⟩
   rw [← ht] at HX QF
   clear ht
   by_cases h0:t<0
   ·have e1:decide (t<0)=true:=decide_eq_true h0
    have H0:=Lib.hid h0
    go_wp2_with (first | (go_at_call 93;refine QF.out.mono ?_;rintro e w1 ⟨rfl,hb1⟩) | go_in)
    go_roundw
    case rel=>exact ⟨k+1,by omega,by go_num,by rw [HX.out,if_neg (by omega)];omega,by rw [HX.out,if_neg (by omega)];exact Kd.R_below hO.out hb1,hNN,below_next hb hb.size hb1⟩
    case measure=>simp [intOf];omega
   ·have e1:decide (t<0)=false:=decide_eq_false h0
    go_wp2_with (first | (go_at_call 93;refine QF.out.mono ?_;rintro e w1 ⟨rfl,hb1⟩;obtain ⟨X,cX,rfl,hcX,hX⟩:=Kd.R_reads (Kd.R_below hO.out hb1);obtain ⟨ad1,rfl⟩:=own_some hNN.out) | go_in)
    have hO1:=Lib.hid (Kd.R_below hO.out hb1)
    have HX2:Hid (sortedTo sec l (k+1)=insI t (sortedTo sec l k)):=by show _=_;rw [HX.out,if_pos (by omega)]
    have hb:=below_next hb hb.size hb1
    clear HX hO hb1 f0 f1 f2 f3
    obtain ⟨xs,hxs⟩:∃ xs,xs=sortedTo sec l k:=⟨_,rfl⟩
    rw [← hxs] at hX HX2 hO1 hsl hcX ⊢
    clear hxs
    go_loopw [8] (fun u wi=>∃ j:Nat,u = .int .i64 j∧j≤cntI t xs∧wi=w1) (fun u _=>xs.length-(intOf u).toNat)
    case atStart=>exact ⟨0,rfl,Nat.zero_le _,rfl⟩
    case round =>
     obtain ⟨j,rfl,hj,rfl⟩:=hrel
     have hcl:=cntI_le t xs
     by_cases hjx:j<xs.length
     ·obtain ⟨ad1',x,ead,hx,x0⟩:=intAt hX j hjx
      obtain rfl:ad1=ad1':=by injection ead
      clear ead
      have e0:decide ((j:Int)<xs.length)=true:=decide_eq_true (by omega)
      have hcw:=cnt_while hj hjx
      rw [List.getElem?_eq_getElem hjx] at hx
      rw [Option.some.inj hx] at hcw
      by_cases hxt:x≤t
      ·have e2:decide (x≤t)=true:=decide_eq_true hxt
       have hj2:=hcw.1 hxt
       clear hcw hx
       go_wp2
       go_roundw
       case rel=>exact ⟨j+1,by go_num,by omega,by first | rfl | trivial⟩
       case measure=>simp [intOf];omega
      ·have e2:decide (x≤t)=false:=decide_eq_false hxt
       have hj2:j=cntI t xs:=(Nat.lt_or_ge j (cntI t xs)).elim (fun h=>absurd (hcw.2 h) hxt) (fun h=>by omega)
       have HJ:=Lib.hid hj2
       clear hcw hx hj2 hcl
       go_wp2
       refine wp_region_any (by kernel_rfl) ?_
       change wpAny _ _ _ _ _ _ _ (World.drew _)
       have hjn:j≤xs.length:=by omega
       have hjc_:j≤cX:=Nat.le_trans hjn hcX
       (refine wpAny_take (i:=1) (v := ?_) rfl (by kernel_rfl) (by kernel_rfl) (by kernel_rfl) (fun _ _ _ h=>h) (Or.inl ⟨by rfl,?_⟩) ?_;rotate_left;(intro w;go_simp;try (with_reducible rfl));rotate_left)
       (refine wpAny_take (i:=2) (v := ?_) rfl (by kernel_rfl) (by kernel_rfl) (by kernel_rfl) (fun _ _ _ h=>h) (Or.inl ⟨by rfl,?_⟩) ?_;rotate_left;(intro w;go_simp;try (with_reducible rfl));rotate_left)
       (refine wpAny_take (i:=3) (v := ?_) rfl (by kernel_rfl) (by kernel_rfl) (by kernel_rfl) (fun _ _ _ h=>h) (Or.inl ⟨by rfl,?_⟩) ?_;rotate_left;(intro w;go_simp;try (with_reducible rfl));rotate_left)
       (refine wpAny_take (i:=5) (v := ?_) rfl (by kernel_rfl) (by kernel_rfl) (by kernel_rfl) (fun _ _ _ h=>h) (Or.inl ⟨by rfl,?_⟩) ?_;rotate_left;(intro w;go_simp;try (with_reducible rfl));rotate_left)
       (refine wpAny_take (i:=8) (v := ?_) rfl (by kernel_rfl) (by kernel_rfl) (by kernel_rfl) (fun _ _ _ h=>h) (Or.inl ⟨by rfl,?_⟩) ?_;rotate_left;(intro w;go_simp;try (with_reducible rfl));rotate_left)
       (refine wpAny_take (i:=9) (v := ?_) rfl (by kernel_rfl) (by kernel_rfl) (by kernel_rfl) (fun _ _ _ h=>h) (Or.inl ⟨by rfl,?_⟩) ?_;rotate_left;(intro w;go_simp;try (with_reducible rfl));rotate_left)
       (refine wpAny_take (i:=10) (v := ?_) rfl (by kernel_rfl) (by kernel_rfl) (by kernel_rfl) (fun _ _ _ h=>h) (Or.inl ⟨by rfl,?_⟩) ?_;rotate_left;(intro w;go_simp;try (with_reducible rfl));rotate_left)
       obtain ⟨V0,hV0⟩:∃ V,V=World.drew wr:=⟨_,rfl⟩
       rw [← hV0]
       have hb0:Below wr.heap.size wr V0:=by rw [hV0];exact (Below.refl _ _).drew
       clear hV0
       refine wpAny_ready (rs:=[0,6]) (by kernel_rfl) (by simp) ?_
       refine (AllReady.cons rfl (fun K hK => ?_) (AllReady.cons rfl (fun K hK => ?_) AllReady.nil))
       ·go_simp
        refine hK _ _ ?_
        clear hK K
        have h38:Kd.R (Kd.int .i64) 3 (V0.alloc (.cells #[] 3)) wr.heap.size (fun _=>True) (.slice (some ⟨V0.heap.size,0,none⟩) 0 0) []:=Kd.R_of_own (World.ownsRow_made V0 #[] 0 hb0.size (Nat.zero_le _) rfl) (fun _ _=>trivial)
        have hb1:=hb0.alloc hb0.size (.cells #[] 3)
        have hs1:Hid ((V0.alloc (.cells #[] 3)).heap.size=V0.heap.size+1):=by show _=_;simp
        obtain ⟨V1,hV1⟩:∃ V,V=V0.alloc (.cells #[] 3):=⟨_,rfl⟩
        rw [← hV1] at hb1 hs1 h38 ⊢
        clear hV1
        refine wpAny_ready (rs:=[4,6]) (by kernel_rfl) (by simp) ?_
        refine (AllReady.cons rfl (fun K hK => ?_) (AllReady.cons rfl (fun K hK => ?_) AllReady.nil))
        ·refine ints_append_step (w0:=wr) wr.heap.size rfl (.tmp 38) (.tmp 41) 31 3 rfl Tryz.underlying31 infoInt (.slice (some ⟨V0.heap.size,0,none⟩) 0 0) [] (xs.take j) (some ad1) j cX rfl rfl h38 (C_takeN (Kd.C_below hX hb1) hjn) hb1 hb1.size (by simp <;> omega) (by simp [Value.ownBlock]) ?_
         intro v42 V2 h42 hb2 hg2 hn42
         refine hK _ _ ?_
         clear hK K
         simp only [List.nil_append] at h42
         refine wpAny_ready (rs:=[6]) (by kernel_rfl) (by simp) ?_
         refine (AllReady.cons rfl (fun K hK => ?_) AllReady.nil)
         ·go_simp
          refine hK _ _ ?_
          clear hK K
          have c44:(V2.alloc (.cells #[.int .i64 t] 3)).cell? ⟨V2.heap.size,0,none⟩=some (.int .i64 t):=by simp
          have h42:=Kd.R_alloc h42 (.cells #[.int .i64 t] 3)
          have hb3:=hb2.alloc hb2.size (.cells #[.int .i64 t] 3)
          have hs3:Hid ((V2.alloc (.cells #[.int .i64 t] 3)).heap.size=V2.heap.size+1):=by show _=_;simp
          obtain ⟨V3,hV3⟩:∃ V,V=V2.alloc (.cells #[.int .i64 t] 3):=⟨_,rfl⟩
          rw [← hV3] at hb3 hs3 h42 c44 ⊢
          clear hV3
          refine wpAny_ready (rs:=[7]) (by kernel_rfl) (by simp) ?_
          refine (AllReady.cons rfl (fun K hK => ?_) AllReady.nil)
          ·refine ints_append_step (w0:=wr) wr.heap.size rfl (.tmp 42) (.tmp 44) 31 3 rfl Tryz.underlying31 infoInt v42 (xs.take j) [t] _ 1 1 rfl rfl h42 (C_one c44) hb3 hb3.size (by simp <;> omega) hn42 ?_
           intro v45 V4 h45 hb4 hg4 hn45
           refine hK _ _ ?_
           clear hK K
           refine wpAny_ready (rs:=[11]) (by kernel_rfl) (by simp) ?_
           refine (AllReady.cons rfl (fun K hK => ?_) AllReady.nil)
           ·refine ints_append_step (w0:=wr) wr.heap.size rfl (.tmp 45) (.tmp 48) 31 3 rfl Tryz.underlying31 infoInt v45 (xs.take j++[t]) (xs.drop j) _ _ _ rfl rfl h45 (C_dropN (Kd.C_below hX hb4) hjn hcX) hb4 hb4.size (by simp <;> omega) hn45 ?_
            intro vZ V5 hZ hb5 hg5 hnZ
            refine hK _ _ ?_
            clear hK K
            refine wpAny_ready (rs:=[12]) (by kernel_rfl) (by simp) ?_
            refine (AllReady.cons rfl (fun K hK => ?_) AllReady.nil)
            ·go_simp
             refine hK _ _ ?_
             clear hK K
             refine wpAny_done (by kernel_rfl) ?_ _
             have hbZ:=hb5
             try simp only [Act.put,List.setIfInBounds_toArray,List.set_cons_succ,List.set_cons_zero]
             go_wp2
             go_roundw
             case rel =>
              rw [HJ.out] at hZ
              rw [← insI_eq,← HX2.out] at hZ
              exact ⟨k+1,by omega,by go_num,by rw [HX2.out,insI_length];omega,Kd.R_lower hZ hb.size,hnZ,below_next hb hb.size hbZ⟩
             case measure=>simp [intOf];omega
        ·go_simp
         refine hK _ _ ?_
         clear hK K
         have c44:(V1.alloc (.cells #[.int .i64 t] 3)).cell? ⟨V1.heap.size,0,none⟩=some (.int .i64 t):=by simp
         have h38:=Kd.R_alloc h38 (.cells #[.int .i64 t] 3)
         have hb7:=hb1.alloc hb1.size (.cells #[.int .i64 t] 3)
         have hs7:Hid ((V1.alloc (.cells #[.int .i64 t] 3)).heap.size=V1.heap.size+1):=by show _=_;simp
         obtain ⟨V7,hV7⟩:∃ V,V=V1.alloc (.cells #[.int .i64 t] 3):=⟨_,rfl⟩
         rw [← hV7] at hb7 hs7 h38 c44 ⊢
         clear hV7
         refine wpAny_ready (rs:=[4]) (by kernel_rfl) (by simp) ?_
         refine (AllReady.cons rfl (fun K hK => ?_) AllReady.nil)
         ·refine ints_append_step (w0:=wr) wr.heap.size rfl (.tmp 38) (.tmp 41) 31 3 rfl Tryz.underlying31 infoInt (.slice (some ⟨V0.heap.size,0,none⟩) 0 0) [] (xs.take j) (some ad1) j cX rfl rfl h38 (C_takeN (Kd.C_below hX hb7) hjn) hb7 hb7.size (by simp <;> omega) (by simp [Value.ownBlock]) ?_
          intro v42 V8 h42 hb8 hg8 hn42
          refine hK _ _ ?_
          clear hK K
          simp only [List.nil_append] at h42
          have c44:=hg8.cell c44 (by have ehs1:=hs1.out;have ehs7:=hs7.out;simp [Value.ownBlock];omega)
          refine wpAny_ready (rs:=[7]) (by kernel_rfl) (by simp) ?_
          refine (AllReady.cons rfl (fun K hK => ?_) AllReady.nil)
          ·refine ints_append_step (w0:=wr) wr.heap.size rfl (.tmp 42) (.tmp 44) 31 3 rfl Tryz.underlying31 infoInt v42 (xs.take j) [t] _ 1 1 rfl rfl h42 (C_one c44) hb8 hb8.size (by simp <;> omega) hn42 ?_
           intro v45 V9 h45 hb9 hg9 hn45
           refine hK _ _ ?_
           clear hK K
           refine wpAny_ready (rs:=[11]) (by kernel_rfl) (by simp) ?_
           refine (AllReady.cons rfl (fun K hK => ?_) AllReady.nil)
           ·refine ints_append_step (w0:=wr) wr.heap.size rfl (.tmp 45) (.tmp 48) 31 3 rfl Tryz.underlying31 infoInt v45 (xs.take j++[t]) (xs.drop j) _ _ _ rfl rfl h45 (C_dropN (Kd.C_below hX hb9) hjn hcX) hb9 hb9.size (by simp <;> omega) hn45 ?_
            intro vZ V10 hZ hb10 hg10 hnZ
            refine hK _ _ ?_
            clear hK K
            refine wpAny_ready (rs:=[12]) (by kernel_rfl) (by simp) ?_
            refine (AllReady.cons rfl (fun K hK => ?_) AllReady.nil)
            ·go_simp
             refine hK _ _ ?_
             clear hK K
             refine wpAny_done (by kernel_rfl) ?_ _
             have hbZ:=hb10
             try simp only [Act.put,List.setIfInBounds_toArray,List.set_cons_succ,List.set_cons_zero]
             go_wp2
             go_roundw
             case rel =>
              rw [HJ.out] at hZ
              rw [← insI_eq,← HX2.out] at hZ
              exact ⟨k+1,by omega,by go_num,by rw [HX2.out,insI_length];omega,Kd.R_lower hZ hb.size,hnZ,below_next hb hb.size hbZ⟩
             case measure=>simp [intOf];omega
       ·go_simp
        refine hK _ _ ?_
        clear hK K
        have c44:(V0.alloc (.cells #[.int .i64 t] 3)).cell? ⟨V0.heap.size,0,none⟩=some (.int .i64 t):=by simp
        have hb12:=hb0.alloc hb0.size (.cells #[.int .i64 t] 3)
        have hs12:Hid ((V0.alloc (.cells #[.int .i64 t] 3)).heap.size=V0.heap.size+1):=by show _=_;simp
        obtain ⟨V12,hV12⟩:∃ V,V=V0.alloc (.cells #[.int .i64 t] 3):=⟨_,rfl⟩
        rw [← hV12] at hb12 hs12 c44 ⊢
        clear hV12
        refine wpAny_ready (rs:=[0]) (by kernel_rfl) (by simp) ?_
        refine (AllReady.cons rfl (fun K hK => ?_) AllReady.nil)
        ·go_simp
         refine hK _ _ ?_
         clear hK K
         have h38:Kd.R (Kd.int .i64) 3 (V12.alloc (.cells #[] 3)) wr.heap.size (fun _=>True) (.slice (some ⟨V12.heap.size,0,none⟩) 0 0) []:=Kd.R_of_own (World.ownsRow_made V12 #[] 0 hb12.size (Nat.zero_le _) rfl) (fun _ _=>trivial)
         have c44:=cell_al c44 (.cells #[] 3)
         have hb13:=hb12.alloc hb12.size (.cells #[] 3)
         have hs13:Hid ((V12.alloc (.cells #[] 3)).heap.size=V12.heap.size+1):=by show _=_;simp
         obtain ⟨V13,hV13⟩:∃ V,V=V12.alloc (.cells #[] 3):=⟨_,rfl⟩
         rw [← hV13] at hb13 hs13 c44 h38 ⊢
         clear hV13
         refine wpAny_ready (rs:=[4]) (by kernel_rfl) (by simp) ?_
         refine (AllReady.cons rfl (fun K hK => ?_) AllReady.nil)
         ·refine ints_append_step (w0:=wr) wr.heap.size rfl (.tmp 38) (.tmp 41) 31 3 rfl Tryz.underlying31 infoInt (.slice (some ⟨V12.heap.size,0,none⟩) 0 0) [] (xs.take j) (some ad1) j cX rfl rfl h38 (C_takeN (Kd.C_below hX hb13) hjn) hb13 hb13.size (by simp <;> omega) (by simp [Value.ownBlock]) ?_
          intro v42 V14 h42 hb14 hg14 hn42
          refine hK _ _ ?_
          clear hK K
          simp only [List.nil_append] at h42
          have c44:=hg14.cell c44 (by have ehs12:=hs12.out;have ehs13:=hs13.out;simp [Value.ownBlock];omega)
          refine wpAny_ready (rs:=[7]) (by kernel_rfl) (by simp) ?_
          refine (AllReady.cons rfl (fun K hK => ?_) AllReady.nil)
          ·refine ints_append_step (w0:=wr) wr.heap.size rfl (.tmp 42) (.tmp 44) 31 3 rfl Tryz.underlying31 infoInt v42 (xs.take j) [t] _ 1 1 rfl rfl h42 (C_one c44) hb14 hb14.size (by simp <;> omega) hn42 ?_
           intro v45 V15 h45 hb15 hg15 hn45
           refine hK _ _ ?_
           clear hK K
           refine wpAny_ready (rs:=[11]) (by kernel_rfl) (by simp) ?_
           refine (AllReady.cons rfl (fun K hK => ?_) AllReady.nil)
           ·refine ints_append_step (w0:=wr) wr.heap.size rfl (.tmp 45) (.tmp 48) 31 3 rfl Tryz.underlying31 infoInt v45 (xs.take j++[t]) (xs.drop j) _ _ _ rfl rfl h45 (C_dropN (Kd.C_below hX hb15) hjn hcX) hb15 hb15.size (by simp <;> omega) hn45 ?_
            intro vZ V16 hZ hb16 hg16 hnZ
            refine hK _ _ ?_
            clear hK K
            refine wpAny_ready (rs:=[12]) (by kernel_rfl) (by simp) ?_
            refine (AllReady.cons rfl (fun K hK => ?_) AllReady.nil)
            ·go_simp
             refine hK _ _ ?_
             clear hK K
             refine wpAny_done (by kernel_rfl) ?_ _
             have hbZ:=hb16
             try simp only [Act.put,List.setIfInBounds_toArray,List.set_cons_succ,List.set_cons_zero]
             go_wp2
             go_roundw
             case rel =>
              rw [HJ.out] at hZ
              rw [← insI_eq,← HX2.out] at hZ
              exact ⟨k+1,by omega,by go_num,by rw [HX2.out,insI_length];omega,Kd.R_lower hZ hb.size,hnZ,below_next hb hb.size hbZ⟩
             case measure=>simp [intOf];omega
     ·have e0:decide ((j:Int)<xs.length)=false:=decide_eq_false (by omega)
      have HJ:Hid (j=cntI t xs):=by show _=_;omega
      have hjn:j≤xs.length:=by omega
      clear hcl
      go_wp2
      refine wp_region_any (by kernel_rfl) ?_
      change wpAny _ _ _ _ _ _ _ (World.drew _)
      have hjc_:j≤cX:=Nat.le_trans hjn hcX
      (refine wpAny_take (i:=1) (v := ?_) rfl (by kernel_rfl) (by kernel_rfl) (by kernel_rfl) (fun _ _ _ h=>h) (Or.inl ⟨by rfl,?_⟩) ?_;rotate_left;(intro w;go_simp;try (with_reducible rfl));rotate_left)
      (refine wpAny_take (i:=2) (v := ?_) rfl (by kernel_rfl) (by kernel_rfl) (by kernel_rfl) (fun _ _ _ h=>h) (Or.inl ⟨by rfl,?_⟩) ?_;rotate_left;(intro w;go_simp;try (with_reducible rfl));rotate_left)
      (refine wpAny_take (i:=3) (v := ?_) rfl (by kernel_rfl) (by kernel_rfl) (by kernel_rfl) (fun _ _ _ h=>h) (Or.inl ⟨by rfl,?_⟩) ?_;rotate_left;(intro w;go_simp;try (with_reducible rfl));rotate_left)
      (refine wpAny_take (i:=5) (v := ?_) rfl (by kernel_rfl) (by kernel_rfl) (by kernel_rfl) (fun _ _ _ h=>h) (Or.inl ⟨by rfl,?_⟩) ?_;rotate_left;(intro w;go_simp;try (with_reducible rfl));rotate_left)
      (refine wpAny_take (i:=8) (v := ?_) rfl (by kernel_rfl) (by kernel_rfl) (by kernel_rfl) (fun _ _ _ h=>h) (Or.inl ⟨by rfl,?_⟩) ?_;rotate_left;(intro w;go_simp;try (with_reducible rfl));rotate_left)
      (refine wpAny_take (i:=9) (v := ?_) rfl (by kernel_rfl) (by kernel_rfl) (by kernel_rfl) (fun _ _ _ h=>h) (Or.inl ⟨by rfl,?_⟩) ?_;rotate_left;(intro w;go_simp;try (with_reducible rfl));rotate_left)
      (refine wpAny_take (i:=10) (v := ?_) rfl (by kernel_rfl) (by kernel_rfl) (by kernel_rfl) (fun _ _ _ h=>h) (Or.inl ⟨by rfl,?_⟩) ?_;rotate_left;(intro w;go_simp;try (with_reducible rfl));rotate_left)
      obtain ⟨V0,hV0⟩:∃ V,V=World.drew wr:=⟨_,rfl⟩
      rw [← hV0]
      have hb0:Below wr.heap.size wr V0:=by rw [hV0];exact (Below.refl _ _).drew
      clear hV0
      refine wpAny_ready (rs:=[0,6]) (by kernel_rfl) (by simp) ?_
      refine (AllReady.cons rfl (fun K hK => ?_) (AllReady.cons rfl (fun K hK => ?_) AllReady.nil))
      ·go_simp
       refine hK _ _ ?_
       clear hK K
       have h38:Kd.R (Kd.int .i64) 3 (V0.alloc (.cells #[] 3)) wr.heap.size (fun _=>True) (.slice (some ⟨V0.heap.size,0,none⟩) 0 0) []:=Kd.R_of_own (World.ownsRow_made V0 #[] 0 hb0.size (Nat.zero_le _) rfl) (fun _ _=>trivial)
       have hb1:=hb0.alloc hb0.size (.cells #[] 3)
       have hs1:Hid ((V0.alloc (.cells #[] 3)).heap.size=V0.heap.size+1):=by show _=_;simp
       obtain ⟨V1,hV1⟩:∃ V,V=V0.alloc (.cells #[] 3):=⟨_,rfl⟩
       rw [← hV1] at hb1 hs1 h38 ⊢
       clear hV1
       refine wpAny_ready (rs:=[4,6]) (by kernel_rfl) (by simp) ?_
       refine (AllReady.cons rfl (fun K hK => ?_) (AllReady.cons rfl (fun K hK => ?_) AllReady.nil))
       ·refine ints_append_step (w0:=wr) wr.heap.size rfl (.tmp 38) (.tmp 41) 31 3 rfl Tryz.underlying31 infoInt (.slice (some ⟨V0.heap.size,0,none⟩) 0 0) [] (xs.take j) (some ad1) j cX rfl rfl h38 (C_takeN (Kd.C_below hX hb1) hjn) hb1 hb1.size (by simp <;> omega) (by simp [Value.ownBlock]) ?_
        intro v42 V2 h42 hb2 hg2 hn42
        refine hK _ _ ?_
        clear hK K
        simp only [List.nil_append] at h42
        refine wpAny_ready (rs:=[6]) (by kernel_rfl) (by simp) ?_
        refine (AllReady.cons rfl (fun K hK => ?_) AllReady.nil)
        ·go_simp
         refine hK _ _ ?_
         clear hK K
         have c44:(V2.alloc (.cells #[.int .i64 t] 3)).cell? ⟨V2.heap.size,0,none⟩=some (.int .i64 t):=by simp
         have h42:=Kd.R_alloc h42 (.cells #[.int .i64 t] 3)
         have hb3:=hb2.alloc hb2.size (.cells #[.int .i64 t] 3)
         have hs3:Hid ((V2.alloc (.cells #[.int .i64 t] 3)).heap.size=V2.heap.size+1):=by show _=_;simp
         obtain ⟨V3,hV3⟩:∃ V,V=V2.alloc (.cells #[.int .i64 t] 3):=⟨_,rfl⟩
         rw [← hV3] at hb3 hs3 h42 c44 ⊢
         clear hV3
         refine wpAny_ready (rs:=[7]) (by kernel_rfl) (by simp) ?_
         refine (AllReady.cons rfl (fun K hK => ?_) AllReady.nil)
         ·refine ints_append_step (w0:=wr) wr.heap.size rfl (.tmp 42) (.tmp 44) 31 3 rfl Tryz.underlying31 infoInt v42 (xs.take j) [t] _ 1 1 rfl rfl h42 (C_one c44) hb3 hb3.size (by simp <;> omega) hn42 ?_
          intro v45 V4 h45 hb4 hg4 hn45
          refine hK _ _ ?_
          clear hK K
          refine wpAny_ready (rs:=[11]) (by kernel_rfl) (by simp) ?_
          refine (AllReady.cons rfl (fun K hK => ?_) AllReady.nil)
          ·refine ints_append_step (w0:=wr) wr.heap.size rfl (.tmp 45) (.tmp 48) 31 3 rfl Tryz.underlying31 infoInt v45 (xs.take j++[t]) (xs.drop j) _ _ _ rfl rfl h45 (C_dropN (Kd.C_below hX hb4) hjn hcX) hb4 hb4.size (by simp <;> omega) hn45 ?_
           intro vZ V5 hZ hb5 hg5 hnZ
           refine hK _ _ ?_
           clear hK K
           refine wpAny_ready (rs:=[12]) (by kernel_rfl) (by simp) ?_
           refine (AllReady.cons rfl (fun K hK => ?_) AllReady.nil)
           ·go_simp
            refine hK _ _ ?_
            clear hK K
            refine wpAny_done (by kernel_rfl) ?_ _
            have hbZ:=hb5
            try simp only [Act.put,List.setIfInBounds_toArray,List.set_cons_succ,List.set_cons_zero]
            go_wp2
            go_roundw
            case rel =>
             rw [HJ.out] at hZ
             rw [← insI_eq,← HX2.out] at hZ
             exact ⟨k+1,by omega,by go_num,by rw [HX2.out,insI_length];omega,Kd.R_lower hZ hb.size,hnZ,below_next hb hb.size hbZ⟩
            case measure=>simp [intOf];omega
       ·go_simp
        refine hK _ _ ?_
        clear hK K
        have c44:(V1.alloc (.cells #[.int .i64 t] 3)).cell? ⟨V1.heap.size,0,none⟩=some (.int .i64 t):=by simp
        have h38:=Kd.R_alloc h38 (.cells #[.int .i64 t] 3)
        have hb7:=hb1.alloc hb1.size (.cells #[.int .i64 t] 3)
        have hs7:Hid ((V1.alloc (.cells #[.int .i64 t] 3)).heap.size=V1.heap.size+1):=by show _=_;simp
        obtain ⟨V7,hV7⟩:∃ V,V=V1.alloc (.cells #[.int .i64 t] 3):=⟨_,rfl⟩
        rw [← hV7] at hb7 hs7 h38 c44 ⊢
        clear hV7
        refine wpAny_ready (rs:=[4]) (by kernel_rfl) (by simp) ?_
        refine (AllReady.cons rfl (fun K hK => ?_) AllReady.nil)
        ·refine ints_append_step (w0:=wr) wr.heap.size rfl (.tmp 38) (.tmp 41) 31 3 rfl Tryz.underlying31 infoInt (.slice (some ⟨V0.heap.size,0,none⟩) 0 0) [] (xs.take j) (some ad1) j cX rfl rfl h38 (C_takeN (Kd.C_below hX hb7) hjn) hb7 hb7.size (by simp <;> omega) (by simp [Value.ownBlock]) ?_
         intro v42 V8 h42 hb8 hg8 hn42
         refine hK _ _ ?_
         clear hK K
         simp only [List.nil_append] at h42
         have c44:=hg8.cell c44 (by have ehs1:=hs1.out;have ehs7:=hs7.out;simp [Value.ownBlock];omega)
         refine wpAny_ready (rs:=[7]) (by kernel_rfl) (by simp) ?_
         refine (AllReady.cons rfl (fun K hK => ?_) AllReady.nil)
         ·refine ints_append_step (w0:=wr) wr.heap.size rfl (.tmp 42) (.tmp 44) 31 3 rfl Tryz.underlying31 infoInt v42 (xs.take j) [t] _ 1 1 rfl rfl h42 (C_one c44) hb8 hb8.size (by simp <;> omega) hn42 ?_
          intro v45 V9 h45 hb9 hg9 hn45
          refine hK _ _ ?_
          clear hK K
          refine wpAny_ready (rs:=[11]) (by kernel_rfl) (by simp) ?_
          refine (AllReady.cons rfl (fun K hK => ?_) AllReady.nil)
          ·refine ints_append_step (w0:=wr) wr.heap.size rfl (.tmp 45) (.tmp 48) 31 3 rfl Tryz.underlying31 infoInt v45 (xs.take j++[t]) (xs.drop j) _ _ _ rfl rfl h45 (C_dropN (Kd.C_below hX hb9) hjn hcX) hb9 hb9.size (by simp <;> omega) hn45 ?_
           intro vZ V10 hZ hb10 hg10 hnZ
           refine hK _ _ ?_
           clear hK K
           refine wpAny_ready (rs:=[12]) (by kernel_rfl) (by simp) ?_
           refine (AllReady.cons rfl (fun K hK => ?_) AllReady.nil)
           ·go_simp
            refine hK _ _ ?_
            clear hK K
            refine wpAny_done (by kernel_rfl) ?_ _
            have hbZ:=hb10
            try simp only [Act.put,List.setIfInBounds_toArray,List.set_cons_succ,List.set_cons_zero]
            go_wp2
            go_roundw
            case rel =>
             rw [HJ.out] at hZ
             rw [← insI_eq,← HX2.out] at hZ
             exact ⟨k+1,by omega,by go_num,by rw [HX2.out,insI_length];omega,Kd.R_lower hZ hb.size,hnZ,below_next hb hb.size hbZ⟩
            case measure=>simp [intOf];omega
      ·go_simp
       refine hK _ _ ?_
       clear hK K
       have c44:(V0.alloc (.cells #[.int .i64 t] 3)).cell? ⟨V0.heap.size,0,none⟩=some (.int .i64 t):=by simp
       have hb12:=hb0.alloc hb0.size (.cells #[.int .i64 t] 3)
       have hs12:Hid ((V0.alloc (.cells #[.int .i64 t] 3)).heap.size=V0.heap.size+1):=by show _=_;simp
       obtain ⟨V12,hV12⟩:∃ V,V=V0.alloc (.cells #[.int .i64 t] 3):=⟨_,rfl⟩
       rw [← hV12] at hb12 hs12 c44 ⊢
       clear hV12
       refine wpAny_ready (rs:=[0]) (by kernel_rfl) (by simp) ?_
       refine (AllReady.cons rfl (fun K hK => ?_) AllReady.nil)
       ·go_simp
        refine hK _ _ ?_
        clear hK K
        have h38:Kd.R (Kd.int .i64) 3 (V12.alloc (.cells #[] 3)) wr.heap.size (fun _=>True) (.slice (some ⟨V12.heap.size,0,none⟩) 0 0) []:=Kd.R_of_own (World.ownsRow_made V12 #[] 0 hb12.size (Nat.zero_le _) rfl) (fun _ _=>trivial)
        have c44:=cell_al c44 (.cells #[] 3)
        have hb13:=hb12.alloc hb12.size (.cells #[] 3)
        have hs13:Hid ((V12.alloc (.cells #[] 3)).heap.size=V12.heap.size+1):=by show _=_;simp
        obtain ⟨V13,hV13⟩:∃ V,V=V12.alloc (.cells #[] 3):=⟨_,rfl⟩
        rw [← hV13] at hb13 hs13 c44 h38 ⊢
        clear hV13
        refine wpAny_ready (rs:=[4]) (by kernel_rfl) (by simp) ?_
        refine (AllReady.cons rfl (fun K hK => ?_) AllReady.nil)
        ·refine ints_append_step (w0:=wr) wr.heap.size rfl (.tmp 38) (.tmp 41) 31 3 rfl Tryz.underlying31 infoInt (.slice (some ⟨V12.heap.size,0,none⟩) 0 0) [] (xs.take j) (some ad1) j cX rfl rfl h38 (C_takeN (Kd.C_below hX hb13) hjn) hb13 hb13.size (by simp <;> omega) (by simp [Value.ownBlock]) ?_
         intro v42 V14 h42 hb14 hg14 hn42
         refine hK _ _ ?_
         clear hK K
         simp only [List.nil_append] at h42
         have c44:=hg14.cell c44 (by have ehs12:=hs12.out;have ehs13:=hs13.out;simp [Value.ownBlock];omega)
         refine wpAny_ready (rs:=[7]) (by kernel_rfl) (by simp) ?_
         refine (AllReady.cons rfl (fun K hK => ?_) AllReady.nil)
         ·refine ints_append_step (w0:=wr) wr.heap.size rfl (.tmp 42) (.tmp 44) 31 3 rfl Tryz.underlying31 infoInt v42 (xs.take j) [t] _ 1 1 rfl rfl h42 (C_one c44) hb14 hb14.size (by simp <;> omega) hn42 ?_
          intro v45 V15 h45 hb15 hg15 hn45
          refine hK _ _ ?_
          clear hK K
          refine wpAny_ready (rs:=[11]) (by kernel_rfl) (by simp) ?_
          refine (AllReady.cons rfl (fun K hK => ?_) AllReady.nil)
          ·refine ints_append_step (w0:=wr) wr.heap.size rfl (.tmp 45) (.tmp 48) 31 3 rfl Tryz.underlying31 infoInt v45 (xs.take j++[t]) (xs.drop j) _ _ _ rfl rfl h45 (C_dropN (Kd.C_below hX hb15) hjn hcX) hb15 hb15.size (by simp <;> omega) hn45 ?_
           intro vZ V16 hZ hb16 hg16 hnZ
           refine hK _ _ ?_
           clear hK K
           refine wpAny_ready (rs:=[12]) (by kernel_rfl) (by simp) ?_
           refine (AllReady.cons rfl (fun K hK => ?_) AllReady.nil)
           ·go_simp
            refine hK _ _ ?_
            clear hK K
            refine wpAny_done (by kernel_rfl) ?_ _
            have hbZ:=hb16
            try simp only [Act.put,List.setIfInBounds_toArray,List.set_cons_succ,List.set_cons_zero]
            go_wp2
            go_roundw
            case rel =>
             rw [HJ.out] at hZ
             rw [← insI_eq,← HX2.out] at hZ
             exact ⟨k+1,by omega,by go_num,by rw [HX2.out,insI_length];omega,Kd.R_lower hZ hb.size,hnZ,below_next hb hb.size hbZ⟩
            case measure=>simp [intOf];omega
  ·obtain ⟨X,cX,rfl,hcX,hX⟩:=Kd.R_reads hO.out
   go_wp2
   go_ret
   obtain rfl:k=l.length:=by omega
   exact ⟨_,rfl,hO.out,hb⟩
theorem first_range {f:Flight} (h:flightB f=true) (sec:ByteArray):firstOf f.f1 sec f.f3≤10200:=by
 obtain ⟨hx1,b1,b2,hx2,hx3,hv⟩:=flightB_parts h
 obtain ⟨hx4,hx5,hvs,hx6⟩:=visitsB_parts hv
 clear hx1 hx2 hx3 hx4 hx5 hx6
 obtain ⟨f0,f1,f2,vs⟩:=f
 simp only at b1 b2 hvs ⊢
 clear h hv
 induction vs with
 | nil=>unfold firstOf;omega
 | cons v r ih =>
  unfold firstOf
  split
  ·have:=visitB_stay (hvs v (List.mem_cons_self ..));omega
  ·exact ih (fun u hu=>hvs u (List.mem_cons_of_mem _ hu))
theorem comes_range {l:List Flight} (h:∀ f∈l,flightB f=true) (sec:ByteArray):∀ x∈comesOf sec l,0≤x∧x≤10200:=by
 intro x hx
 unfold comesOf at hx
 obtain ⟨h1,h2⟩:=List.mem_filter.1 hx
 obtain ⟨f,hf,rfl⟩:=List.mem_map.1 h1
 exact ⟨by simpa using h2,first_range (h f hf) sec⟩
theorem sorted_range {l:List Flight} (h:∀ f∈l,flightB f=true) (sec:ByteArray):∀ x∈sortedTo sec l l.length,0≤x∧x≤10200:=fun x hx=>comes_range h sec x ((sortedTo_spec sec l).2.mem_iff.1 hx)
theorem comes_length (sec:ByteArray) (l:List Flight):(comesOf sec l).length≤l.length:=by
 have h:=List.length_filter_le (fun t=>decide (0≤t)) (l.map fun f=>firstOf f.f1 sec f.f3)
 unfold comesOf
 rw [List.length_map] at h
 exact h
theorem sorted_length (sec:ByteArray) (l:List Flight):(sortedTo sec l l.length).length≤l.length:=by
 rw [(sortedTo_spec sec l).2.length_eq];exact comes_length sec l
def boundN (caps:List Cap) (l:List Flight) (sec:ByteArray):Int :=
 if capsB caps=true∧flightsB l=true∧1≤capOf sec caps then runS (capOf sec caps).toNat (sortedTo sec l l.length) [] 0 else 0
theorem runS_step {ts:List Int} {k:Nat} {t:Int} (h:ts[k]? = some t) (c:Nat) (g:List Int) (s:Int):runS c (ts.drop k) g s=runS c (ts.drop (k+1)) (g++[giveT c g t]) (s+giveT c g t-t):=by
 have hk:=some_lt h
 rw [List.drop_eq_getElem_cons hk]
 rw [List.getElem?_eq_getElem hk] at h
 rw [Option.some.inj h]
 rfl
set_option maxRecDepth 100000 in
set_option maxHeartbeats 4000000 in
theorem spec_bound_any (A:Option Addr) (c:Nat) (caps:List Cap) (A1:Option Addr) (c1:Nat) (l:List Flight) (sec:ByteArray) (w:World) (hr:Kd.C k80 w A caps.length caps) (hr1:Kd.C k45 w A1 l.length l) :
  Calls Tryz.prog 31 #[.slice A caps.length c, .slice A1 l.length c1, .string sec] w fun e w'=>e = .returned (.int .i64 (boundN caps l sec))∧Below w.heap.size w w':=by
 have QX:=Lib.hid (spec_l5Cap_any A c caps sec w hr)
 have QC:=Lib.hid (fun W (h:Below w.heap.size w W)=>spec_capsOk_any A c caps W (Kd.C_below hr h) (C_len hr))
 have QF:=Lib.hid (fun W (h:Below w.heap.size w W)=>spec_flightsOk_any A1 c1 l W (Kd.C_below hr1 h) (C_len hr1))
 cases hc:capsB caps with
 | false =>
  go_enter Tryz.func31,Tryz.ntmps31
  go_wp2_with (first
   | (go_at_call 60;refine QX.out.mono ?_;rintro e w1 ⟨rfl,hb⟩)
   | (go_at_call 54;refine (QC.out _ hb).mono ?_;rintro e w2 ⟨rfl,hb2⟩;rw [hc])
   | go_in)
  go_ret
  exact ⟨ret_int (by simp [boundN,hc]),below_next hb hb.size hb2⟩
 | true =>
 have HC:=Lib.hid hc
 cases hf:flightsB l with
 | false =>
  clear hc
  go_enter Tryz.func31,Tryz.ntmps31
  go_wp2_with (first
   | (go_at_call 60;refine QX.out.mono ?_;rintro e w1 ⟨rfl,hb⟩)
   | (go_at_call 54;refine (QC.out _ hb).mono ?_;rintro e w2 ⟨rfl,hb2⟩;rw [HC.out];have hb':=below_next hb hb.size hb2)
   | (go_at_call 47;refine (QF.out _ hb').mono ?_;rintro e w3 ⟨rfl,hb3⟩;rw [hf])
   | go_in)
  go_ret
  exact ⟨ret_int (by simp [boundN,hf]),below_next hb' hb'.size hb3⟩
 | true =>
 have HF:=Lib.hid hf
 clear hc
 by_cases hcap:capOf sec caps<1
 ·have e1:decide (capOf sec caps<1)=true:=decide_eq_true hcap
  clear hf
  go_enter Tryz.func31,Tryz.ntmps31
  go_wp2_with (first
   | (go_at_call 60;refine QX.out.mono ?_;rintro e w1 ⟨rfl,hb⟩)
   | (go_at_call 54;refine (QC.out _ hb).mono ?_;rintro e w2 ⟨rfl,hb2⟩;rw [HC.out];have hb':=below_next hb hb.size hb2)
   | (go_at_call 47;refine (QF.out _ hb').mono ?_;rintro e w3 ⟨rfl,hb3⟩;rw [HF.out])
   | go_in)
  go_ret
  exact ⟨ret_int (by unfold boundN;rw [if_neg (by rintro ⟨_,_,h⟩;omega)]),below_next hb' hb'.size hb3⟩
 have hB:Hid (boundN caps l sec=runS (capOf sec caps).toNat (sortedTo sec l l.length) [] 0):=by show _=_;unfold boundN;rw [if_pos ⟨HC.out,HF.out,by omega⟩]
 obtain ⟨cn,hcn⟩:∃ cn:Nat,capOf sec caps=cn:=⟨(capOf sec caps).toNat,by omega⟩
 have hcn1:1≤cn:=by omega
 have e1:decide ((cn:Int)<1)=false:=decide_eq_false (by omega)
 rw [hcn,Int.toNat_natCast] at hB
 rw [hcn] at QX
 have hl8:=(flightsB_parts hf).1
 have hls:=sorted_length sec l
 have HR:=Lib.hid (sorted_range (flightsB_parts hf).2.1 sec)
 have QS:=Lib.hid (fun W (h:Below w.heap.size w W)=>spec_sorted_any A1 c1 l sec W (Kd.C_below hr1 h) hf)
 obtain ⟨ts,hts⟩:∃ ts,ts=sortedTo sec l l.length:=⟨_,rfl⟩
 rw [← hts] at hB QS hls HR
 clear hf hcap hcn hts
 go_enter Tryz.func31,Tryz.ntmps31
 go_wp2_with (first
  | (go_at_call 60;refine QX.out.mono ?_;rintro e w1 ⟨rfl,hb⟩)
  | (go_at_call 54;refine (QC.out _ hb).mono ?_;rintro e w2 ⟨rfl,hb2⟩;rw [HC.out];have hb':=below_next hb hb.size hb2)
  | (go_at_call 47;refine (QF.out _ hb').mono ?_;rintro e w3 ⟨rfl,hb3⟩;rw [HF.out];have hb'':=below_next hb' hb'.size hb3)
  | (go_at_call 61;refine (QS.out _ hb'').mono ?_;rintro e w4 ⟨v,rfl,ho,hb4⟩;obtain ⟨X,cX,rfl,hcX,hX⟩:=Kd.R_reads ho;have hb4':=below_next hb'' hb''.size hb4)
  | go_in)
 clear ho hb4 hb hb' hb'' hb2 hb3
 go_loopw [9,10,11] (fun g s v wr=>∃ (k:Nat) (gs:List Int) (sm:Int),v = .int .i64 k∧k≤ts.length∧gs.length=k∧s = .int .i64 sm∧0≤sm∧sm≤20000*k∧Hid (∀ x∈gs,0≤x∧x≤10200+k)∧Hid (runS cn ts [] 0=runS cn (ts.drop k) gs sm) ∧
  Hid (Kd.R (Kd.int .i64) 3 wr w4.heap.size (fun _=>True) g gs)∧Below w4.heap.size w4 wr) (fun _ _ v _=>ts.length-(intOf v).toNat)
 case atStart=>exact ⟨0,[],0,rfl,Nat.zero_le _,rfl,rfl,Int.le_refl _,by omega,(fun x hx=>by cases hx),rfl,R_made w4 _,(Below.refl _ _).alloc (Nat.le_refl _) _⟩
 case round =>
  obtain ⟨k,gs,sm,rfl,hk,hgl,rfl,hs0,hs1,hG,hF2,hO,hb⟩:=hrel
  obtain ⟨Y,cY,rfl,hcY,hY⟩:=Kd.R_reads hO.out
  by_cases hlt:k<ts.length
  ·obtain ⟨ad,t,rfl,ht,t0⟩:=intAt hX k hlt
   have j4:(k:Int)<ts.length:=by omega
   have HT:=Lib.hid (runS_step ht cn gs sm)
   have htr:=HR.out t (List.mem_of_getElem? ht)
   clear ht
   have t0w:=t0
   replace t0:=pw_cell_below hb t0
   have hk8:k<8:=by omega
   by_cases hge:cn≤k
   ·have e2:decide ((cn:Int)≤(k:Int))=true:=decide_eq_true (by omega)
    obtain ⟨m,hm⟩:∃ m,k=cn+m:=⟨k-cn,by omega⟩
    have hmg:m<gs.length:=by omega
    obtain ⟨ad2,x,rfl,hx,x0⟩:=intAt hY m hmg
    have hxr:=hG.out x (List.mem_of_getElem? hx)
    have j5:(k:Int)-(cn:Int)=(m:Int):=by omega
    have j6:(m:Int)<gs.length:=by omega
    have hgx:gs.getD (gs.length-cn) 0=x:=by rw [show gs.length-cn=m by omega,List.getD_eq_getElem?_getD,hx];rfl
    by_cases hxt:t≤x
    ·have e3:decide (t≤x)=true:=decide_eq_true hxt
     have hgv:giveT cn gs t=x+1:=by unfold giveT;rw [hgx,if_pos ⟨by omega,hxt⟩]
     clear hgx hx hm
     have HV:=Lib.hid hgv
     clear hgv
     have j8:IntKind.i64.wrap (sm+(x+1))=sm+(x+1):=IntWalk.i64_in _ (by omega)
     have j9:IntKind.i64.wrap (sm+(x+1)-t)=sm+(x+1)-t:=IntWalk.i64_in _ (by omega)
     go_wp2_with (first
      | (at_builtin;refine Kd.R_append_row (w0:=w4) (Value.int .i64) 0 w4.heap.size rfl _ _ 31 3 (.int .i64 0) 8 rfl Tryz.underlying31 infoInt rfl (by decide) (.slice (some ad2) gs.length cY) gs [(x+1)] (some ⟨wr.heap.size,0,none⟩) 1 1 (fun _=>True) rfl rfl (fun _ _=>trivial) (Kd.R_alloc hO.out _) (C_one (by simp)) (hb.alloc hb.size _) (by have:=hb.size;simp;omega) (by omega) ?_;intro v1 w1 ho hb1 hg1 hat1;have t1:=hb1.cell (World.block_lt_of_cell? w4 _ t0w);have t1:=t1.trans t0w)
      | go_in)
     go_roundw
     case rel=>exact ⟨k+1,gs++[(x+1)],sm+(x+1)-t,by go_num,by omega,by simp;omega,by go_num,by omega,by omega,(fun x hx=>by rcases List.mem_append.1 hx with h | h;exact ⟨(hG.out x h).1,by have:=(hG.out x h).2;omega⟩;simp at h;subst h;omega),by show _=_;rw [hF2.out,HT.out,HV.out],ho,hb1⟩
     case measure=>simp [intOf];omega
    ·have e3:decide (t≤x)=false:=decide_eq_false hxt
     have hgv:giveT cn gs t=t:=by unfold giveT;rw [hgx,if_neg (by rintro ⟨_,h⟩;omega)]
     clear hgx hx hm
     have HV:=Lib.hid hgv
     clear hgv
     have j8:IntKind.i64.wrap (sm+t)=sm+t:=IntWalk.i64_in _ (by omega)
     have j9:IntKind.i64.wrap (sm+t-t)=sm+t-t:=IntWalk.i64_in _ (by omega)
     go_wp2_with (first
      | (at_builtin;refine Kd.R_append_row (w0:=w4) (Value.int .i64) 0 w4.heap.size rfl _ _ 31 3 (.int .i64 0) 8 rfl Tryz.underlying31 infoInt rfl (by decide) (.slice (some ad2) gs.length cY) gs [t] (some ⟨wr.heap.size,0,none⟩) 1 1 (fun _=>True) rfl rfl (fun _ _=>trivial) (Kd.R_alloc hO.out _) (C_one (by simp)) (hb.alloc hb.size _) (by have:=hb.size;simp;omega) (by omega) ?_;intro v1 w1 ho hb1 hg1 hat1;have t1:=hb1.cell (World.block_lt_of_cell? w4 _ t0w);have t1:=t1.trans t0w)
      | go_in)
     go_roundw
     case rel=>exact ⟨k+1,gs++[t],sm+t-t,by go_num,by omega,by simp;omega,by go_num,by omega,by omega,(fun x hx=>by rcases List.mem_append.1 hx with h | h;exact ⟨(hG.out x h).1,by have:=(hG.out x h).2;omega⟩;simp at h;subst h;omega),by show _=_;rw [hF2.out,HT.out,HV.out],ho,hb1⟩
     case measure=>simp [intOf];omega
   ·have e2:decide ((cn:Int)≤(k:Int))=false:=decide_eq_false (by omega)
    have hgv:giveT cn gs t=t:=by unfold giveT;rw [if_neg (by rintro ⟨h,_⟩;omega)]
    have HV:=Lib.hid hgv
    clear hgv
    have j8:IntKind.i64.wrap (sm+t)=sm+t:=IntWalk.i64_in _ (by omega)
    have j9:IntKind.i64.wrap (sm+t-t)=sm+t-t:=IntWalk.i64_in _ (by omega)
    go_wp2_with (first
     | (at_builtin;refine Kd.R_append_row (w0:=w4) (Value.int .i64) 0 w4.heap.size rfl _ _ 31 3 (.int .i64 0) 8 rfl Tryz.underlying31 infoInt rfl (by decide) (.slice Y gs.length cY) gs [t] (some ⟨wr.heap.size,0,none⟩) 1 1 (fun _=>True) rfl rfl (fun _ _=>trivial) (Kd.R_alloc hO.out _) (C_one (by simp)) (hb.alloc hb.size _) (by have:=hb.size;simp;omega) (by omega) ?_;intro v1 w1 ho hb1 hg1 hat1;have t1:=hb1.cell (World.block_lt_of_cell? w4 _ t0w);have t1:=t1.trans t0w)
     | go_in)
    go_roundw
    case rel=>exact ⟨k+1,gs++[t],sm+t-t,by go_num,by omega,by simp;omega,by go_num,by omega,by omega,(fun x hx=>by rcases List.mem_append.1 hx with h | h;exact ⟨(hG.out x h).1,by have:=(hG.out x h).2;omega⟩;simp at h;subst h;omega),by show _=_;rw [hF2.out,HT.out,HV.out],ho,hb1⟩
    case measure=>simp [intOf];omega
  ·go_wp2
   go_ret
   obtain rfl:k=ts.length:=by omega
   exact ⟨ret_int (by rw [hB.out,hF2.out,List.drop_length];rfl),below_next hb4' hb4'.size hb⟩
theorem sortL_sorted (xs:List Int):(sortL xs).Pairwise (· ≤ ·):=by
 have h:=List.pairwise_mergeSort (le:=fun x y=>decide (x≤y)) (fun a b c h1 h2=>by simp at h1 h2 ⊢;omega) (fun a b=>by simp;omega) xs
 exact h.imp (fun h=>by simpa using h)
theorem sortL_comes (sec:ByteArray) (l:List Flight):sortL (comesOf sec l)=sortedTo sec l l.length :=
 sorted_unique _ _ (sortL_sorted _) (sortedTo_spec sec l).1 ((List.mergeSort_perm _ _).trans (sortedTo_spec sec l).2.symm)
theorem boundN_impl {caps:List Cap} {l:List Flight} (sec:ByteArray) (hc:capsB caps=true) (hf:flightsB l=true) (h1:1≤lastCap sec caps 0):boundN caps l sec=runI (lastCap sec caps 0) (sortL (comesOf sec l)) (-1) 0 0:=by
 obtain ⟨e1,e2⟩:=last_cap hc sec
 have hcap:1≤capOf sec caps:=by omega
 unfold boundN
 rw [if_pos ⟨hc,hf,hcap⟩,sortL_comes,e2 hcap]
 obtain ⟨cn,hcn⟩:∃ cn:Nat,capOf sec caps=cn:=⟨(capOf sec caps).toNat,by omega⟩
 rw [hcn,Int.toNat_natCast]
 exact run_all (by omega) _ (fun t ht=>(sorted_range (flightsB_parts hf).2.1 sec t ht).1) (sortedTo_spec sec l).1
theorem boundN_zero {caps:List Cap} {l:List Flight} (sec:ByteArray) (hc:capsB caps=true) (h1:lastCap sec caps 0<1):boundN caps l sec=0:=by
 have:=(last_cap hc sec).1.1 h1
 unfold boundN
 rw [if_neg (by rintro ⟨_,_,h⟩;omega)]
theorem nowT_parts {c now n t:Int}:(now<t→n=n→(0=c→nowT c now n t=(t+1,1))∧(¬0=c→nowT c now n t=(t,1)))∧(¬now<t→(n=c→nowT c now n t=(now+1,1))∧(¬n=c→nowT c now n t=(now,n+1))):=by
 refine ⟨fun h _=>⟨fun h2 => ?_,fun h2 => ?_⟩,fun h=>⟨fun h2 => ?_,fun h2 => ?_⟩⟩
 ·unfold nowT;simp only [h,if_true];rw [if_pos h2]
 ·unfold nowT;simp only [h,if_true];rw [if_neg h2];rfl
 ·unfold nowT;simp only [h,if_false];rw [if_pos h2]
 ·unfold nowT;simp only [h,if_false];rw [if_neg h2]
set_option maxRecDepth 100000 in
set_option maxHeartbeats 4000000 in
theorem impl_bound_any (A:Option Addr) (c:Nat) (caps:List Cap) (A1:Option Addr) (c1:Nat) (l:List Flight) (sec:ByteArray) (w:World) (hr:Kd.C k80 w A caps.length caps) (hr1:Kd.C k45 w A1 l.length l) :
  Calls Tryz.prog 44 #[.slice A caps.length c, .slice A1 l.length c1, .string sec] w fun e w'=>e = .returned (.int .i64 (boundN caps l sec))∧Below w.heap.size w w':=by
 have QC:=Lib.hid (impl_capsOk_any A c caps w hr (C_len hr))
 have QF:=Lib.hid (fun W (h:Below w.heap.size w W)=>impl_flightsOk_any A1 c1 l W (Kd.C_below hr1 h) (C_len hr1))
 cases hc:capsB caps with
 | false =>
  go_enter Tryz.func44,Tryz.ntmps44
  go_wp2_with (first
   | (go_at_call 76;refine QC.out.mono ?_;rintro e w2 ⟨rfl,hb2⟩;rw [hc])
   | go_in)
  go_ret
  exact ⟨ret_int (by simp [boundN,hc]),hb2⟩
 | true =>
 have HC:=Lib.hid hc
 cases hf:flightsB l with
 | false =>
  clear hc
  go_enter Tryz.func44,Tryz.ntmps44
  go_wp2_with (first
   | (go_at_call 76;refine QC.out.mono ?_;rintro e w2 ⟨rfl,hb2⟩;rw [HC.out])
   | (go_at_call 77;refine (QF.out _ hb2).mono ?_;rintro e w3 ⟨rfl,hb3⟩;rw [hf])
   | go_in)
  go_ret
  exact ⟨ret_int (by simp [boundN,hf]),below_next hb2 hb2.size hb3⟩
 | true =>
 have HF:=Lib.hid hf
 obtain ⟨hc6,hcb,_⟩:=capsB_parts hc
 obtain ⟨hl8,hfs,_⟩:=flightsB_parts hf
 have HCB:=Lib.hid hcb
 have HFS:=Lib.hid hfs
 have HCR:=Lib.hid (comes_range hfs sec)
 clear hc hf hcb hfs
 go_enter Tryz.func44,Tryz.ntmps44
 go_wp2_with (first
  | (go_at_call 76;refine QC.out.mono ?_;rintro e w2 ⟨rfl,hb2⟩;rw [HC.out])
  | (go_at_call 77;refine (QF.out _ hb2).mono ?_;rintro e w3 ⟨rfl,hb3⟩;rw [HF.out])
  | go_in)
 have hb:=below_next hb2 hb2.size hb3
 clear hb2 hb3
 go_loopw [7,30] (fun lm v wr=>∃ (k:Nat) (n:Int),v = .int .i64 k∧k≤caps.length∧lm = .int .i64 n∧0≤n∧n≤20∧Hid (lastCap sec caps 0=lastCap sec (caps.drop k) n)∧Below w.heap.size w wr) (fun _ v _=>caps.length-(intOf v).toNat)
 case atStart=>exact ⟨0,0,rfl,Nat.zero_le _,rfl,by omega,by omega,rfl,hb⟩
 case round =>
  clear hb
  obtain ⟨k,n,rfl,hk,rfl,hn0,hn1,hF,hb⟩:=hrel
  by_cases hlt:k<caps.length
  ·obtain ⟨ad,x,rfl,hx,x0,x1⟩:=capAt (Kd.C_below hr hb) k hlt
   have j4:(k:Int)<caps.length:=by omega
   have HX:=Lib.hid (lastCap_step hx sec n)
   have hxb:=(capB_parts (HCB.out x (List.mem_of_getElem? hx))).2
   clear hx
   by_cases hsec:x.f0=sec
   ·have e3:=str_same hsec
    have HS:=Lib.hid hsec
    clear hsec
    go_wp2
    go_roundw
    case rel=>exact ⟨k+1,x.f1,by go_num,by omega,rfl,by omega,by omega,by show _=_;rw [hF.out,HX.out,if_pos HS.out],hb.alloc hb.size _⟩
    case measure=>simp [intOf];omega
   ·have e3:=str_other hsec
    have HS:=Lib.hid hsec
    clear hsec
    go_wp2
    go_roundw
    case rel=>exact ⟨k+1,n,by go_num,by omega,rfl,by omega,by omega,by show _=_;rw [hF.out,HX.out,if_neg HS.out],hb.alloc hb.size _⟩
    case measure=>simp [intOf];omega
  ·obtain rfl:k=caps.length:=by omega
   have hF':Hid (lastCap sec caps 0=n):=by show _=_;rw [hF.out,List.drop_length];rfl
   clear hF
   by_cases hlim:n<1
   ·have e1:decide (n<1)=true:=decide_eq_true hlim
    have HN:=Lib.hid hlim
    go_wp2
    go_ret
    exact ⟨ret_int (boundN_zero sec HC.out (by rw [hF'.out];exact HN.out)).symm,hb⟩
   have e1:decide (n<1)=false:=decide_eq_false hlim
   have HB:Hid (boundN caps l sec=runI n (sortL (comesOf sec l)) (-1) 0 0):=by show _=_;rw [boundN_impl sec HC.out HF.out (by rw [hF'.out];omega),hF'.out]
   clear hF'
   go_wp2
   obtain ⟨W3,hW3⟩:∃ V,V=wr:=⟨_,rfl⟩
   subst hW3
   go_loopw [10,46] (fun cs v wq=>∃ (k:Nat) (xs:List Int),v = .int .i64 k∧k≤l.length∧xs.length≤k∧Hid (xs=comesOf sec (l.take k))∧Hid (Kd.R (Kd.int .i64) 3 wq W3.heap.size (fun _=>True) cs xs)∧Below W3.heap.size W3 wq) (fun _ v _=>l.length-(intOf v).toNat)
   case atStart=>exact ⟨0,[],rfl,Nat.zero_le _,Nat.zero_le _,by show _=_;simp [comesOf],R_made W3 _,(Below.refl _ _).alloc (Nat.le_refl _) _⟩
   case round =>
    obtain ⟨k,xs,rfl,hk,hxl,hXS,hO,hq⟩:=hrel
    obtain ⟨Y,cY,rfl,hcY,hY⟩:=Kd.R_reads hO.out
    clear hY
    by_cases hlt:k<l.length
    ·obtain ⟨ad,f,A3,c3,rfl,hf,f0,f1,f2,f3,hl3,hr3⟩:=flightAt hr1 k hlt
     have hbw:=below_next hb hb.size hq
     have HW:=Lib.hid hbw
     have f0:=pw_cell_below hbw f0
     have f1:=pw_cell_below hbw f1
     have f2:=pw_cell_below hbw f2
     have f3:=pw_cell_below hbw f3
     have HX:=Lib.hid (comes_step hf sec)
     have hfb:=flightB_parts (HFS.out f (List.mem_of_getElem? hf))
     have HV:=Lib.hid (visitsB_parts hfb.2.2.2.2.2)
     have b1:=hfb.2.1
     have b2:=hfb.2.2.1
     clear hf hfb hbw
     go_wp2
     have hqs:=hq.size
     go_loopw [10,53] (fun cs v wq=>∃ j:Nat,v = .int .i64 j∧cs = .slice Y xs.length cY∧j≤f.f3.length∧Hid (firstOf f.f1 sec f.f3=firstOf f.f1 sec (f.f3.drop j))∧Hid (Kd.R (Kd.int .i64) 3 wq W3.heap.size (fun _=>True) (.slice Y xs.length cY) xs)∧wq.cell? ⟨wr.heap.size,1,none⟩=some (.int .i64 f.f1)∧Below wr.heap.size wr wq) (fun _ v _=>f.f3.length-(intOf v).toNat)
     case atStart=>exact ⟨0,rfl,rfl,Nat.zero_le _,rfl,Kd.R_alloc hO.out _,by simp,(Below.refl _ _).alloc (Nat.le_refl _) _⟩
     case round =>
      clear f0 f1 f2 f3 hO
      obtain ⟨j,rfl,rfl,hj,hF,hO,g1,hj2⟩:=hrel
      have hv5:f.f3.length≤5:=HV.out.2.1
      have hqj:=below_next hq hqs hj2
      have hqjs:=hqj.size
      by_cases hjt:j<f.f3.length
      ·obtain ⟨ad3,v,rfl,hv,v0,v1,v2⟩:=visitAt (Kd.C_below hr3 (below_next hb hb.size hqj)) j hjt
       have j6:(j:Int)<f.f3.length:=by omega
       have HFX:=Lib.hid (firstOf_step hv f.f1 sec)
       have hvb:=visitB_stay (HV.out.2.2.1 v (List.mem_of_getElem? hv))
       clear hv
       by_cases hsec:v.f0=sec
       ·have e3:=str_same hsec
        have HS:=Lib.hid hsec
        clear hsec
        have j7:IntKind.i64.wrap (f.f1+v.f1)=f.f1+v.f1:=IntWalk.i64_in _ (by omega)
        have g1:=cell_al g1 (.cells #[.string v.f0, .int .i64 v.f1, .int .i64 v.f2] 52)
        go_wp2_with (first
         | (at_builtin;refine Kd.R_append_row (w0:=W3) (Value.int .i64) 0 W3.heap.size rfl _ _ 31 3 (.int .i64 0) 8 rfl Tryz.underlying31 infoInt rfl (by decide) (.slice Y xs.length cY) xs [f.f1+v.f1] (some ⟨wr.heap.size+1,0,none⟩) 1 1 (fun _=>True) rfl rfl (fun _ _=>trivial) (Kd.R_alloc (Kd.R_alloc hO.out _) _) (C_one (by simp)) ((hqj.alloc hqjs _).alloc (by first | omega | (simp <;> omega)) _) (by first | omega | (simp <;> omega)) (by first | omega | (simp <;> omega)) ?_;intro v1 w1 ho hb1 hg1 hat1)
         | go_in)
        go_roundw
        case rel=>exact ⟨k+1,xs++[f.f1+v.f1],by go_num,by omega,by simp;omega,by show _=_;rw [HX.out,hF.out,HFX.out,if_pos HS.out,if_pos (by omega),hXS.out],ho,hb1⟩
        case measure=>simp [intOf];omega
       ·have e3:=str_other hsec
        have HS:=Lib.hid hsec
        clear hsec
        go_wp2
        go_roundw
        case rel=>exact ⟨j+1,by go_num,rfl,by omega,by show _=_;rw [hF.out,HFX.out,if_neg HS.out],Kd.R_alloc hO.out _,cell_al g1 _,hj2.alloc hj2.size _⟩
        case measure=>simp [intOf];omega
      ·obtain rfl:j=f.f3.length:=by omega
       have HN:Hid (firstOf f.f1 sec f.f3 = -1):=by show _=_;rw [hF.out,List.drop_length];rfl
       go_wp2
       go_roundw
       case rel=>exact ⟨k+1,xs,by go_num,by omega,by omega,by show _=_;rw [HX.out,HN.out,if_neg (by omega),List.append_nil,hXS.out],hO.out,hqj⟩
       case measure=>simp [intOf];omega
    ·obtain rfl:k=l.length:=by omega
     rw [List.take_length] at hXS
     have hqs:=hq.size
     go_wp2_with (first
      | (go_at_call 83;refine (sortInts_any (.slice Y xs.length cY) xs wr W3.heap.size (by omega) hO.out hqs).mono ?_;rintro e w5 ⟨rfl,ho5,hb5,hg5⟩;have hX:=R_readC ho5)
      | go_in)
     have hb6:=Lib.hid (below_next hb hb.size (hq.trans hb5))
     have HTR:Hid (∀ t∈sortL xs,0≤t∧t≤10200):=fun t ht=>HCR.out t (by rw [← hXS.out];exact (List.mergeSort_perm _ _).mem_iff.1 ht)
     have hsl:(sortL xs).length≤8:=by rw [sortL_length];omega
     rw [← hXS.out] at HB
     obtain ⟨ts,hts⟩:∃ ts,ts=sortL xs:=⟨_,rfl⟩
     rw [← hts] at HB HTR hsl hX
     have hxt:xs.length=ts.length:=by rw [hts,sortL_length]
     rw [hxt] at hX ⊢
     clear hts ho5 hb5 hg5 hO hq hqs hXS hb
     go_loopw [15,16,17,75] (fun nv mv sv v wq=>∃ (k:Nat) (now m late:Int),v = .int .i64 k∧k≤ts.length∧nv = .int .i64 now ∧ -1≤now∧now≤10200+k∧mv = .int .i64 m∧0≤m∧m≤k∧sv = .int .i64 late∧0≤late∧late≤20000*k∧Hid (runI n ts (-1) 0 0=runI n (ts.drop k) now m late)∧wq=w5) (fun _ _ _ v _=>ts.length-(intOf v).toNat)
     case atStart=>exact ⟨0,-1,0,0,rfl,Nat.zero_le _,rfl,by omega,by omega,rfl,by omega,by omega,rfl,by omega,by omega,rfl,rfl⟩
     case round =>
      obtain ⟨k,now,m,late,rfl,hk2,rfl,hn2,hn3,rfl,hm0,hm1,rfl,hs0,hs1,hR,rfl⟩:=hrel
      by_cases hkt:k<ts.length
      ·obtain ⟨ad,t,rfl,ht,t0⟩:=intAt hX k hkt
       have j4:(k:Int)<ts.length:=by omega
       have htr:=HTR.out t (List.mem_of_getElem? ht)
       have HST:=Lib.hid (runI_step ht n now m late)
       have HP:=Lib.hid (nowT_parts (c:=n) (now:=now) (n:=m) (t:=t))
       clear ht
       by_cases hnt:now<t
       ·have e4:decide (now<t)=true:=decide_eq_true hnt
        have hz:¬ (0:Int)=n:=by omega
        have e5:((0:Int) == n)=false:=by simp [hz]
        have HE:=Lib.hid ((HP.out.1 hnt rfl).2 hz)
        clear hz
        go_wp2
        go_roundw
        case rel=>exact ⟨k+1,t,1,late+(t-t),by go_num,by omega,rfl,by omega,by omega,rfl,by omega,by omega,by go_num,by omega,by omega,by show _=_;rw [hR.out,HST.out,HE.out],by first | rfl | trivial⟩
        case measure=>simp [intOf];omega
       ·have e4:decide (now<t)=false:=decide_eq_false hnt
        by_cases hmn:m=n
        ·have e5:(m == n)=true:=by simp [hmn]
         have HE:=Lib.hid ((HP.out.2 hnt).1 hmn)
         have HMN:=Lib.hid hmn
         clear hmn
         go_wp2
         go_roundw
         case rel=>exact ⟨k+1,now+1,1,late+(now+1-t),by go_num,by omega,by go_num,by omega,by omega,rfl,by omega,by omega,by go_num,by omega,by omega,by show _=_;rw [hR.out,HST.out,HE.out],by first | rfl | trivial⟩
         case measure=>simp [intOf];omega
        ·have e5:(m == n)=false:=by simp [hmn]
         have HE:=Lib.hid ((HP.out.2 hnt).2 hmn)
         have HMN:=Lib.hid hmn
         clear hmn
         go_wp2
         go_roundw
         case rel=>exact ⟨k+1,now,m+1,late+(now-t),by go_num,by omega,rfl,by omega,by omega,by go_num,by omega,by omega,by go_num,by omega,by omega,by show _=_;rw [hR.out,HST.out,HE.out],by first | rfl | trivial⟩
         case measure=>simp [intOf];omega
      ·go_wp2
       go_ret
       obtain rfl:k=ts.length:=by omega
       exact ⟨ret_int (by rw [HB.out,hR.out,List.drop_length];rfl),hb6.out⟩
end Go.Proofs.YthcpbojmalgdbaaGreatDoor.Q
