/- Merged out of this seat's own texts. -/
import Derived.Test.YthcpbojmalgdbaaGreatDoorMlC
import Derived.Test.YthcpbojmalgdbaaGreatDoorMlN
import Derived.Test.YthcpbojmalgdbaaGreatDoorMlA
import Derived.Deep.RegionHeld3
import Derived.Sort.Grow
import Derived.Sort.WalkA
import Derived.Shelf.Abstract
import Derived.Deep.DeepCutAuto
import Derived.Shelf.Strings.Builder1
import Derived.Shelf.Strings.Builder2
import Derived.Shelf.Strings.OnBuilder
import Derived.Shelf.Small.Bits
import Derived.Shelf.Strconv.Atoi
import Derived.Shelf.Strconv.Itoa0
import Derived.Shelf.Strconv.Itoa1
import Derived.Shelf.LaysM
import Derived.Shelf.Strconv.Itoa2
import Derived.Shelf.Strconv.Itoa3
import Derived.Shelf.Strings.Search1
import Derived.Shelf.Strings.Search2
import Derived.Shelf.Strings.Search3
import Derived.Shelf.Strings.Count
import Derived.Shelf.Strings.Shaped
import Derived.Shelf.Sort.Plain
import Derived.Ground.GgsProg
import Derived.Shelf.GgSortFunc.Insertion
import Derived.Shelf.GgSortFunc.Tiny
import Derived.Shelf.GgSortFunc.Compose
import Derived.Ground.GgtProg
import Derived.Shelf.GgSortMore.Stable
import Derived.Shelf.Strings.Split
import Derived.Shelf.Unicode.DecodeSlow
import Derived.Shelf.Slices.In.SortNone
import Derived.Shelf.Slices.In.SortNone2
import Derived.Test.YthcpbojmalgdbaaGreatDoorProg
set_option linter.unusedVariables false
set_option linter.unusedSimpArgs false
namespace Go.Proofs.YthcpbojmalgdbaaGreatDoor.Q
open Go.RowKit Go.Proofs.YthcpbojmalgdbaaGreatDoorW.PrintWords Go.Proofs.YthcpbojmalgdbaaGreatDoor.Core
theorem noLater_lt {l:List Flight} {i x:Int} {f o:Flight} (hi:flAt l i=f) (hx:flAt l x=o) (h:o.f1<f.f1):noLater l i x=true:=by
 unfold noLater aheadB;rw [hi,hx,if_neg (by omega),decide_eq_false (by omega)];rfl
theorem noLater_gt {l:List Flight} {i x:Int} {f o:Flight} (hi:flAt l i=f) (hx:flAt l x=o) (h:f.f1<o.f1):noLater l i x=false:=by
 unfold noLater aheadB;rw [hi,hx,if_neg (by omega),decide_eq_true (by omega)];rfl
theorem noLater_eq {l:List Flight} {i x:Int} {f o:Flight} (hi:flAt l i=f) (hx:flAt l x=o) (h:o.f1=f.f1):noLater l i x = !lessB f.f0 o.f0:=by
 unfold noLater aheadB;rw [hi,hx,if_pos h.symm]
theorem leq_names {a b:ByteArray}:(Op.bytesLess a.toList b.toList || a.toList == b.toList) = !lessB b a:=by
 cases h:lessB b a with
 | true =>
  have h1:Op.bytesLess a.toList b.toList=false:=by
   rw [Bool.eq_false_iff];intro h2
   have:=less_trans (a:=a) (b:=b) (c:=a) h2 h
   rw [less_irrefl] at this;cases this
  have h2:(a.toList == b.toList)=false:=by
   rw [beq_eq_false_iff_ne];intro e
   unfold lessB at h;rw [e,bl_irrefl] at h;cases h
  rw [h1,h2];rfl
 | false =>
  cases h1:Op.bytesLess a.toList b.toList with
  | true=>rfl
  | false=>rw [bl_total _ _ h1 h];simp
theorem flAt_nat {l:List Flight} {n:Nat} {f:Flight} (h:l[n]? = some f):flAt l n=f:=by
 unfold flAt;rw [Int.toNat_natCast,List.getD_eq_getElem?_getD,h];rfl
set_option maxRecDepth 100000 in
set_option maxHeartbeats 4000000 in
theorem spec_order_any (A:Option Addr) (c:Nat) (l:List Flight) (w:World) (hr:Kd.C k45 w A l.length l) (hl:l.length≤1048576) :
  Calls Tryz.prog 56 #[.slice A l.length c] w fun e w'=>∃ v,e = .returned v∧Kd.R (Kd.int .i64) 3 w' w.heap.size (fun _=>True) v (ordTo l l.length)∧Below w.heap.size w w':=by
 go_enter Tryz.func56,Tryz.ntmps56
 go_wp2
 go_loopw [3,4] (fun o v wr=>∃ k:Nat,k≤l.length∧v = .int .i64 k∧Hid (Kd.R (Kd.int .i64) 3 wr w.heap.size (fun _=>True) o (ordTo l k))∧Hid (o.ownBlock≠none)∧Below w.heap.size w wr) (fun _ v _=>l.length-(intOf v).toNat)
 case atStart=>exact ⟨0,Nat.zero_le _,rfl,R_made w _,(fun h=>by simp [Value.ownBlock] at h),(Below.refl _ _).alloc (Nat.le_refl _) _⟩
 case round =>
  obtain ⟨k,hk,rfl,hO,hNN,hb⟩:=hrel
  obtain ⟨X,cX,rfl,hcX,hX⟩:=Kd.R_reads hO.out
  obtain ⟨ad1,rfl⟩:=own_some hNN.out
  have HOL:=Lib.hid (ordTo_length l k)
  have hwl:=hb.size
  by_cases hlt:k<l.length
  ·obtain ⟨ad,f,A3,c3,rfl,hf,f0,f1,f2,f3,hl3,hr3⟩:=flightAt (Kd.C_below hr hb) k hlt
   have j4:(k:Int)<l.length:=by omega
   have HFI:=Lib.hid (flAt_nat hf)
   have HRG:=Lib.hid (ordTo_range l k)
   have HX2:Hid (ordTo l (k+1)=insP (noLater l k) k (ordTo l k)):=rfl
   clear hf hl3 hr3 f2 f3
   obtain ⟨xs,hxs⟩:∃ xs,xs=ordTo l k:=⟨_,rfl⟩
   rw [← hxs] at hX HX2 hO hcX HOL HRG ⊢
   clear hxs
   have hxl:xs.length≤1048575:=by have:=HOL.out;omega
   obtain ⟨W1,hW1⟩:∃ V,V=wr:=⟨_,rfl⟩
   subst hW1
   go_wp2
   go_loopw [5] (fun u wi=>∃ (j q:Nat),u = .int .i64 j∧j≤cntQ (noLater l k) xs∧wi=W1.drewN q) (fun u _=>xs.length-(intOf u).toNat)
   case atStart=>exact ⟨0,0,rfl,Nat.zero_le _,rfl⟩
   case round =>
    obtain ⟨j,q,rfl,hj,rfl⟩:=hrel
    have hcl:=cntQ_le (noLater l k) xs
    by_cases hjx:j<xs.length
    ·obtain ⟨ad1',x,ead,hx,x0⟩:=intAt hX j hjx
     obtain rfl:ad1=ad1':=by injection ead
     clear ead
     have hxr:=HRG.out x (List.mem_of_getElem? hx)
     obtain ⟨n,rfl⟩:=Int.eq_ofNat_of_zero_le hxr.1
     have hnl:n<l.length:=by have:=HOL.out;omega
     obtain ⟨ad',o,A4,c4,ead,ho,o0,o1,o2,o3,hl4,hr4⟩:=flightAt (Kd.C_below hr hb) n hnl
     obtain rfl:ad=ad':=by injection ead
     have HOI:=Lib.hid (flAt_nat ho)
     have e0:decide ((j:Int)<xs.length)=true:=decide_eq_true (by omega)
     have e0':decide (j<xs.length)=true:=decide_eq_true hjx
     have j5:(j:Int)<xs.length:=by omega
     have j6:(n:Int)<l.length:=by omega
     have hcw:=cntQ_while hj hjx
     rw [List.getElem?_eq_getElem hjx] at hx
     rw [Option.some.inj hx] at hcw
     have HCW:=Lib.hid hcw
     clear ead hx ho hl4 hr4 o2 o3 hcw hxr
     rcases Int.lt_trichotomy o.f1 f.f1 with hp | hp | hp
     ·have e2:decide (o.f1<f.f1)=true:=decide_eq_true hp
      have hj2:=HCW.out.1 (noLater_lt HFI.out HOI.out hp)
      go_wp2
      go_quiet (fail)
      go_wp2
      go_roundw
      case rel=>exact ⟨j+1,_,by go_num,by omega,rfl⟩
      case measure=>simp [intOf];omega
     ·have e2:decide (o.f1<f.f1)=false:=decide_eq_false (by omega)
      have e3:(o.f1 == f.f1)=true:=by simp [hp]
      have HNE:=Lib.hid (noLater_eq HFI.out HOI.out hp)
      have e4:(Op.bytesLess o.f0.toList f.f0.toList || o.f0.toList == f.f0.toList) = !lessB f.f0 o.f0:=leq_names
      clear hp
      cases hnm:lessB f.f0 o.f0 with
      | false =>
       rw [hnm] at e4
       have hj2:=HCW.out.1 (by rw [HNE.out,hnm];rfl)
       go_wp2
       go_quiet (fail)
       go_wp2
       go_roundw
       case rel=>exact ⟨j+1,_,by go_num,by omega,rfl⟩
       case measure=>simp [intOf];omega
      | true =>
       rw [hnm] at e4
       have hjq:j=cntQ (noLater l k) xs:=by
        rcases Nat.lt_or_ge j (cntQ (noLater l k) xs) with h | h
        ·have:=HCW.out.2 h;rw [HNE.out,hnm] at this;cases this
        ·omega
       have hjn:j≤xs.length:=by omega
       have HJ:=Lib.hid hjq
       clear hjq hcl
       go_wp2
       go_quiet (fail)
       rename_i nq
       go_wp2
       obtain ⟨Vw,hV⟩:∃ Vw,Vw=(World.drewN (World.drewN W1 q) nq):=⟨_,rfl⟩
       rw [← hV]
       have hbV:Below W1.heap.size W1 Vw:=by rw [hV];exact pw_below_drewN (pw_below_drewN (Below.refl _ _) _) _
       have hXV:=Kd.C_below hX hbV
       clear hV
       refine wp_region_any (by kernel_rfl) ?_
       change wpAny _ _ _ _ _ _ _ (World.drew _)
       have hjc_:j≤cX:=Nat.le_trans hjn hcX
       (refine wpAny_take (i:=1) (v := ?_) rfl (by kernel_rfl) (by kernel_rfl) (by kernel_rfl) (fun _ _ _ h=>h) (Or.inl ⟨by rfl,?_⟩) ?_;rotate_left;(intro w;go_simp;try (with_reducible rfl));rotate_left)
       (refine wpAny_take (i:=2) (v := ?_) rfl (by kernel_rfl) (by kernel_rfl) (by kernel_rfl) (fun _ _ _ h=>h) (Or.inl ⟨by rfl,?_⟩) ?_;rotate_left;(intro w;go_simp;try (with_reducible rfl));rotate_left)
       (refine wpAny_take (i:=3) (v := ?_) rfl (by kernel_rfl) (by kernel_rfl) (by kernel_rfl) (fun _ _ _ h=>h) (Or.inl ⟨by rfl,?_⟩) ?_;rotate_left;(intro w;go_simp;try (with_reducible rfl));rotate_left)
       (refine wpAny_take (i:=5) (v := ?_) rfl (by kernel_rfl) (by kernel_rfl) (by kernel_rfl) (fun _ _ _ h=>h) (Or.inl ⟨by rfl,?_⟩) ?_;rotate_left;(intro w;go_simp;try (with_reducible rfl));rotate_left)
       (refine wpAny_take (i:=8) (v := ?_) rfl (by kernel_rfl) (by kernel_rfl) (by kernel_rfl) (fun _ _ _ h=>h) (Or.inl ⟨by rfl,?_⟩) ?_;rotate_left;(intro w;go_simp;try (with_reducible rfl));rotate_left)
       (refine wpAny_take (i:=9) (v := ?_) rfl (by kernel_rfl) (by kernel_rfl) (by kernel_rfl) (fun _ _ _ h=>h) (Or.inl ⟨by rfl,?_⟩) ?_;rotate_left;(intro w;go_simp;try (with_reducible rfl));rotate_left)
       (refine wpAny_take (i:=10) (v := ?_) rfl (by kernel_rfl) (by kernel_rfl) (by kernel_rfl) (fun _ _ _ h=>h) (Or.inl ⟨by rfl,?_⟩) ?_;rotate_left;(intro w;go_simp;try (with_reducible rfl));rotate_left)
       obtain ⟨V0,hV0⟩:∃ V,V=World.drew Vw:=⟨_,rfl⟩
       rw [← hV0]
       have hb0:Below Vw.heap.size Vw V0:=by rw [hV0];exact (Below.refl _ _).drew
       clear hV0
       refine wpAny_ready (rs:=[0,6]) (by kernel_rfl) (by simp) ?_
       refine (AllReady.cons rfl (fun K hK => ?_) (AllReady.cons rfl (fun K hK => ?_) AllReady.nil))
       ·go_simp
        refine hK _ _ ?_
        clear hK K
        have h38:Kd.R (Kd.int .i64) 3 (V0.alloc (.cells #[] 3)) Vw.heap.size (fun _=>True) (.slice (some ⟨V0.heap.size,0,none⟩) 0 0) []:=Kd.R_of_own (World.ownsRow_made V0 #[] 0 hb0.size (Nat.zero_le _) rfl) (fun _ _=>trivial)
        have hb1:=hb0.alloc hb0.size (.cells #[] 3)
        have hs1:Hid ((V0.alloc (.cells #[] 3)).heap.size=V0.heap.size+1):=by show _=_;simp
        obtain ⟨V1,hV1⟩:∃ V,V=V0.alloc (.cells #[] 3):=⟨_,rfl⟩
        rw [← hV1] at hb1 hs1 h38 ⊢
        clear hV1
        refine wpAny_ready (rs:=[4,6]) (by kernel_rfl) (by simp) ?_
        refine (AllReady.cons rfl (fun K hK => ?_) (AllReady.cons rfl (fun K hK => ?_) AllReady.nil))
        ·refine ints_append_step (w0:=Vw) Vw.heap.size rfl (.tmp 67) (.tmp 70) 31 3 rfl Tryz.underlying31 infoInt (.slice (some ⟨V0.heap.size,0,none⟩) 0 0) [] (xs.take j) (some ad1) j cX rfl rfl h38 (C_takeN (Kd.C_below hXV hb1) hjn) hb1 hb1.size (by simp <;> omega) (by simp [Value.ownBlock]) ?_
         intro v42 V2 h42 hb2 hg2 hn42
         refine hK _ _ ?_
         clear hK K
         simp only [List.nil_append] at h42
         refine wpAny_ready (rs:=[6]) (by kernel_rfl) (by simp) ?_
         refine (AllReady.cons rfl (fun K hK => ?_) AllReady.nil)
         ·go_simp
          refine hK _ _ ?_
          clear hK K
          have c44:(V2.alloc (.cells #[.int .i64 (k:Int)] 3)).cell? ⟨V2.heap.size,0,none⟩=some (.int .i64 (k:Int)):=by simp
          have h42:=Kd.R_alloc h42 (.cells #[.int .i64 (k:Int)] 3)
          have hb3:=hb2.alloc hb2.size (.cells #[.int .i64 (k:Int)] 3)
          have hs3:Hid ((V2.alloc (.cells #[.int .i64 (k:Int)] 3)).heap.size=V2.heap.size+1):=by show _=_;simp
          obtain ⟨V3,hV3⟩:∃ V,V=V2.alloc (.cells #[.int .i64 (k:Int)] 3):=⟨_,rfl⟩
          rw [← hV3] at hb3 hs3 h42 c44 ⊢
          clear hV3
          refine wpAny_ready (rs:=[7]) (by kernel_rfl) (by simp) ?_
          refine (AllReady.cons rfl (fun K hK => ?_) AllReady.nil)
          ·refine ints_append_step (w0:=Vw) Vw.heap.size rfl (.tmp 71) (.tmp 73) 31 3 rfl Tryz.underlying31 infoInt v42 (xs.take j) [(k:Int)] _ 1 1 rfl rfl h42 (C_one c44) hb3 hb3.size (by simp <;> omega) hn42 ?_
           intro v45 V4 h45 hb4 hg4 hn45
           refine hK _ _ ?_
           clear hK K
           refine wpAny_ready (rs:=[11]) (by kernel_rfl) (by simp) ?_
           refine (AllReady.cons rfl (fun K hK => ?_) AllReady.nil)
           ·refine ints_append_step (w0:=Vw) Vw.heap.size rfl (.tmp 74) (.tmp 77) 31 3 rfl Tryz.underlying31 infoInt v45 (xs.take j++[(k:Int)]) (xs.drop j) _ _ _ rfl rfl h45 (C_dropN (Kd.C_below hXV hb4) hjn hcX) hb4 hb4.size (by simp <;> omega) hn45 ?_
            intro vZ V5 hZ hb5 hg5 hnZ
            refine hK _ _ ?_
            clear hK K
            refine wpAny_ready (rs:=[12]) (by kernel_rfl) (by simp) ?_
            refine (AllReady.cons rfl (fun K hK => ?_) AllReady.nil)
            ·go_simp
             refine hK _ _ ?_
             clear hK K
             refine wpAny_done (by kernel_rfl) ?_ _
             have hbZ:=hb5
             try simp only [Act.put,List.setIfInBounds_toArray,List.set_cons_succ,List.set_cons_zero]
             go_wp2
             go_roundw
             case rel =>
              rw [HJ.out] at hZ
              rw [← insP_eq,← HX2.out] at hZ
              exact ⟨k+1,by omega,by go_num,Kd.R_lower hZ (Nat.le_trans hwl hbV.size),hnZ,below_next (below_next hb hb.size hbV) (Nat.le_trans hwl hbV.size) hbZ⟩
             case measure=>simp [intOf];omega
        ·go_simp
         refine hK _ _ ?_
         clear hK K
         have c44:(V1.alloc (.cells #[.int .i64 (k:Int)] 3)).cell? ⟨V1.heap.size,0,none⟩=some (.int .i64 (k:Int)):=by simp
         have h38:=Kd.R_alloc h38 (.cells #[.int .i64 (k:Int)] 3)
         have hb7:=hb1.alloc hb1.size (.cells #[.int .i64 (k:Int)] 3)
         have hs7:Hid ((V1.alloc (.cells #[.int .i64 (k:Int)] 3)).heap.size=V1.heap.size+1):=by show _=_;simp
         obtain ⟨V7,hV7⟩:∃ V,V=V1.alloc (.cells #[.int .i64 (k:Int)] 3):=⟨_,rfl⟩
         rw [← hV7] at hb7 hs7 h38 c44 ⊢
         clear hV7
         refine wpAny_ready (rs:=[4]) (by kernel_rfl) (by simp) ?_
         refine (AllReady.cons rfl (fun K hK => ?_) AllReady.nil)
         ·refine ints_append_step (w0:=Vw) Vw.heap.size rfl (.tmp 67) (.tmp 70) 31 3 rfl Tryz.underlying31 infoInt (.slice (some ⟨V0.heap.size,0,none⟩) 0 0) [] (xs.take j) (some ad1) j cX rfl rfl h38 (C_takeN (Kd.C_below hXV hb7) hjn) hb7 hb7.size (by simp <;> omega) (by simp [Value.ownBlock]) ?_
          intro v42 V8 h42 hb8 hg8 hn42
          refine hK _ _ ?_
          clear hK K
          simp only [List.nil_append] at h42
          have c44:=hg8.cell c44 (by have ehs1:=hs1.out;have ehs7:=hs7.out;simp [Value.ownBlock];omega)
          refine wpAny_ready (rs:=[7]) (by kernel_rfl) (by simp) ?_
          refine (AllReady.cons rfl (fun K hK => ?_) AllReady.nil)
          ·refine ints_append_step (w0:=Vw) Vw.heap.size rfl (.tmp 71) (.tmp 73) 31 3 rfl Tryz.underlying31 infoInt v42 (xs.take j) [(k:Int)] _ 1 1 rfl rfl h42 (C_one c44) hb8 hb8.size (by simp <;> omega) hn42 ?_
           intro v45 V9 h45 hb9 hg9 hn45
           refine hK _ _ ?_
           clear hK K
           refine wpAny_ready (rs:=[11]) (by kernel_rfl) (by simp) ?_
           refine (AllReady.cons rfl (fun K hK => ?_) AllReady.nil)
           ·refine ints_append_step (w0:=Vw) Vw.heap.size rfl (.tmp 74) (.tmp 77) 31 3 rfl Tryz.underlying31 infoInt v45 (xs.take j++[(k:Int)]) (xs.drop j) _ _ _ rfl rfl h45 (C_dropN (Kd.C_below hXV hb9) hjn hcX) hb9 hb9.size (by simp <;> omega) hn45 ?_
            intro vZ V10 hZ hb10 hg10 hnZ
            refine hK _ _ ?_
            clear hK K
            refine wpAny_ready (rs:=[12]) (by kernel_rfl) (by simp) ?_
            refine (AllReady.cons rfl (fun K hK => ?_) AllReady.nil)
            ·go_simp
             refine hK _ _ ?_
             clear hK K
             refine wpAny_done (by kernel_rfl) ?_ _
             have hbZ:=hb10
             try simp only [Act.put,List.setIfInBounds_toArray,List.set_cons_succ,List.set_cons_zero]
             go_wp2
             go_roundw
             case rel =>
              rw [HJ.out] at hZ
              rw [← insP_eq,← HX2.out] at hZ
              exact ⟨k+1,by omega,by go_num,Kd.R_lower hZ (Nat.le_trans hwl hbV.size),hnZ,below_next (below_next hb hb.size hbV) (Nat.le_trans hwl hbV.size) hbZ⟩
             case measure=>simp [intOf];omega
       ·go_simp
        refine hK _ _ ?_
        clear hK K
        have c44:(V0.alloc (.cells #[.int .i64 (k:Int)] 3)).cell? ⟨V0.heap.size,0,none⟩=some (.int .i64 (k:Int)):=by simp
        have hb12:=hb0.alloc hb0.size (.cells #[.int .i64 (k:Int)] 3)
        have hs12:Hid ((V0.alloc (.cells #[.int .i64 (k:Int)] 3)).heap.size=V0.heap.size+1):=by show _=_;simp
        obtain ⟨V12,hV12⟩:∃ V,V=V0.alloc (.cells #[.int .i64 (k:Int)] 3):=⟨_,rfl⟩
        rw [← hV12] at hb12 hs12 c44 ⊢
        clear hV12
        refine wpAny_ready (rs:=[0]) (by kernel_rfl) (by simp) ?_
        refine (AllReady.cons rfl (fun K hK => ?_) AllReady.nil)
        ·go_simp
         refine hK _ _ ?_
         clear hK K
         have h38:Kd.R (Kd.int .i64) 3 (V12.alloc (.cells #[] 3)) Vw.heap.size (fun _=>True) (.slice (some ⟨V12.heap.size,0,none⟩) 0 0) []:=Kd.R_of_own (World.ownsRow_made V12 #[] 0 hb12.size (Nat.zero_le _) rfl) (fun _ _=>trivial)
         have c44:=cell_al c44 (.cells #[] 3)
         have hb13:=hb12.alloc hb12.size (.cells #[] 3)
         have hs13:Hid ((V12.alloc (.cells #[] 3)).heap.size=V12.heap.size+1):=by show _=_;simp
         obtain ⟨V13,hV13⟩:∃ V,V=V12.alloc (.cells #[] 3):=⟨_,rfl⟩
         rw [← hV13] at hb13 hs13 c44 h38 ⊢
         clear hV13
         refine wpAny_ready (rs:=[4]) (by kernel_rfl) (by simp) ?_
         refine (AllReady.cons rfl (fun K hK => ?_) AllReady.nil)
         ·refine ints_append_step (w0:=Vw) Vw.heap.size rfl (.tmp 67) (.tmp 70) 31 3 rfl Tryz.underlying31 infoInt (.slice (some ⟨V12.heap.size,0,none⟩) 0 0) [] (xs.take j) (some ad1) j cX rfl rfl h38 (C_takeN (Kd.C_below hXV hb13) hjn) hb13 hb13.size (by simp <;> omega) (by simp [Value.ownBlock]) ?_
          intro v42 V14 h42 hb14 hg14 hn42
          refine hK _ _ ?_
          clear hK K
          simp only [List.nil_append] at h42
          have c44:=hg14.cell c44 (by have ehs12:=hs12.out;have ehs13:=hs13.out;simp [Value.ownBlock];omega)
          refine wpAny_ready (rs:=[7]) (by kernel_rfl) (by simp) ?_
          refine (AllReady.cons rfl (fun K hK => ?_) AllReady.nil)
          ·refine ints_append_step (w0:=Vw) Vw.heap.size rfl (.tmp 71) (.tmp 73) 31 3 rfl Tryz.underlying31 infoInt v42 (xs.take j) [(k:Int)] _ 1 1 rfl rfl h42 (C_one c44) hb14 hb14.size (by simp <;> omega) hn42 ?_
           intro v45 V15 h45 hb15 hg15 hn45
           refine hK _ _ ?_
           clear hK K
           refine wpAny_ready (rs:=[11]) (by kernel_rfl) (by simp) ?_
           refine (AllReady.cons rfl (fun K hK => ?_) AllReady.nil)
           ·refine ints_append_step (w0:=Vw) Vw.heap.size rfl (.tmp 74) (.tmp 77) 31 3 rfl Tryz.underlying31 infoInt v45 (xs.take j++[(k:Int)]) (xs.drop j) _ _ _ rfl rfl h45 (C_dropN (Kd.C_below hXV hb15) hjn hcX) hb15 hb15.size (by simp <;> omega) hn45 ?_
            intro vZ V16 hZ hb16 hg16 hnZ
            refine hK _ _ ?_
            clear hK K
            refine wpAny_ready (rs:=[12]) (by kernel_rfl) (by simp) ?_
            refine (AllReady.cons rfl (fun K hK => ?_) AllReady.nil)
            ·go_simp
             refine hK _ _ ?_
             clear hK K
             refine wpAny_done (by kernel_rfl) ?_ _
             have hbZ:=hb16
             try simp only [Act.put,List.setIfInBounds_toArray,List.set_cons_succ,List.set_cons_zero]
             go_wp2
             go_roundw
             case rel =>
              rw [HJ.out] at hZ
              rw [← insP_eq,← HX2.out] at hZ
              exact ⟨k+1,by omega,by go_num,Kd.R_lower hZ (Nat.le_trans hwl hbV.size),hnZ,below_next (below_next hb hb.size hbV) (Nat.le_trans hwl hbV.size) hbZ⟩
             case measure=>simp [intOf];omega
     ·have e2:decide (o.f1<f.f1)=false:=decide_eq_false (by omega)
      have e3:(o.f1 == f.f1)=false:=by simp;omega
      have hjq:j=cntQ (noLater l k) xs:=by
       rcases Nat.lt_or_ge j (cntQ (noLater l k) xs) with h | h
       ·have:=HCW.out.2 h;rw [noLater_gt HFI.out HOI.out hp] at this;cases this
       ·omega
      have hjn:j≤xs.length:=by omega
      have HJ:=Lib.hid hjq
      clear hjq hcl
      go_wp2
      go_quiet (fail)
      rename_i nq
      go_wp2
      obtain ⟨Vw,hV⟩:∃ Vw,Vw=(World.drewN (World.drewN W1 q) nq):=⟨_,rfl⟩
      rw [← hV]
      have hbV:Below W1.heap.size W1 Vw:=by rw [hV];exact pw_below_drewN (pw_below_drewN (Below.refl _ _) _) _
      have hXV:=Kd.C_below hX hbV
      clear hV
      refine wp_region_any (by kernel_rfl) ?_
      change wpAny _ _ _ _ _ _ _ (World.drew _)
      have hjc_:j≤cX:=Nat.le_trans hjn hcX
      (refine wpAny_take (i:=1) (v := ?_) rfl (by kernel_rfl) (by kernel_rfl) (by kernel_rfl) (fun _ _ _ h=>h) (Or.inl ⟨by rfl,?_⟩) ?_;rotate_left;(intro w;go_simp;try (with_reducible rfl));rotate_left)
      (refine wpAny_take (i:=2) (v := ?_) rfl (by kernel_rfl) (by kernel_rfl) (by kernel_rfl) (fun _ _ _ h=>h) (Or.inl ⟨by rfl,?_⟩) ?_;rotate_left;(intro w;go_simp;try (with_reducible rfl));rotate_left)
      (refine wpAny_take (i:=3) (v := ?_) rfl (by kernel_rfl) (by kernel_rfl) (by kernel_rfl) (fun _ _ _ h=>h) (Or.inl ⟨by rfl,?_⟩) ?_;rotate_left;(intro w;go_simp;try (with_reducible rfl));rotate_left)
      (refine wpAny_take (i:=5) (v := ?_) rfl (by kernel_rfl) (by kernel_rfl) (by kernel_rfl) (fun _ _ _ h=>h) (Or.inl ⟨by rfl,?_⟩) ?_;rotate_left;(intro w;go_simp;try (with_reducible rfl));rotate_left)
      (refine wpAny_take (i:=8) (v := ?_) rfl (by kernel_rfl) (by kernel_rfl) (by kernel_rfl) (fun _ _ _ h=>h) (Or.inl ⟨by rfl,?_⟩) ?_;rotate_left;(intro w;go_simp;try (with_reducible rfl));rotate_left)
      (refine wpAny_take (i:=9) (v := ?_) rfl (by kernel_rfl) (by kernel_rfl) (by kernel_rfl) (fun _ _ _ h=>h) (Or.inl ⟨by rfl,?_⟩) ?_;rotate_left;(intro w;go_simp;try (with_reducible rfl));rotate_left)
      (refine wpAny_take (i:=10) (v := ?_) rfl (by kernel_rfl) (by kernel_rfl) (by kernel_rfl) (fun _ _ _ h=>h) (Or.inl ⟨by rfl,?_⟩) ?_;rotate_left;(intro w;go_simp;try (with_reducible rfl));rotate_left)
      obtain ⟨V0,hV0⟩:∃ V,V=World.drew Vw:=⟨_,rfl⟩
      rw [← hV0]
      have hb0:Below Vw.heap.size Vw V0:=by rw [hV0];exact (Below.refl _ _).drew
      clear hV0
      refine wpAny_ready (rs:=[0,6]) (by kernel_rfl) (by simp) ?_
      refine (AllReady.cons rfl (fun K hK => ?_) (AllReady.cons rfl (fun K hK => ?_) AllReady.nil))
      ·go_simp
       refine hK _ _ ?_
       clear hK K
       have h38:Kd.R (Kd.int .i64) 3 (V0.alloc (.cells #[] 3)) Vw.heap.size (fun _=>True) (.slice (some ⟨V0.heap.size,0,none⟩) 0 0) []:=Kd.R_of_own (World.ownsRow_made V0 #[] 0 hb0.size (Nat.zero_le _) rfl) (fun _ _=>trivial)
       have hb1:=hb0.alloc hb0.size (.cells #[] 3)
       have hs1:Hid ((V0.alloc (.cells #[] 3)).heap.size=V0.heap.size+1):=by show _=_;simp
       obtain ⟨V1,hV1⟩:∃ V,V=V0.alloc (.cells #[] 3):=⟨_,rfl⟩
       rw [← hV1] at hb1 hs1 h38 ⊢
       clear hV1
       refine wpAny_ready (rs:=[4,6]) (by kernel_rfl) (by simp) ?_
       refine (AllReady.cons rfl (fun K hK => ?_) (AllReady.cons rfl (fun K hK => ?_) AllReady.nil))
       ·refine ints_append_step (w0:=Vw) Vw.heap.size rfl (.tmp 67) (.tmp 70) 31 3 rfl Tryz.underlying31 infoInt (.slice (some ⟨V0.heap.size,0,none⟩) 0 0) [] (xs.take j) (some ad1) j cX rfl rfl h38 (C_takeN (Kd.C_below hXV hb1) hjn) hb1 hb1.size (by simp <;> omega) (by simp [Value.ownBlock]) ?_
        intro v42 V2 h42 hb2 hg2 hn42
        refine hK _ _ ?_
        clear hK K
        simp only [List.nil_append] at h42
        refine wpAny_ready (rs:=[6]) (by kernel_rfl) (by simp) ?_
        refine (AllReady.cons rfl (fun K hK => ?_) AllReady.nil)
        ·go_simp
         refine hK _ _ ?_
         clear hK K
         have c44:(V2.alloc (.cells #[.int .i64 (k:Int)] 3)).cell? ⟨V2.heap.size,0,none⟩=some (.int .i64 (k:Int)):=by simp
         have h42:=Kd.R_alloc h42 (.cells #[.int .i64 (k:Int)] 3)
         have hb3:=hb2.alloc hb2.size (.cells #[.int .i64 (k:Int)] 3)
         have hs3:Hid ((V2.alloc (.cells #[.int .i64 (k:Int)] 3)).heap.size=V2.heap.size+1):=by show _=_;simp
         obtain ⟨V3,hV3⟩:∃ V,V=V2.alloc (.cells #[.int .i64 (k:Int)] 3):=⟨_,rfl⟩
         rw [← hV3] at hb3 hs3 h42 c44 ⊢
         clear hV3
         refine wpAny_ready (rs:=[7]) (by kernel_rfl) (by simp) ?_
         refine (AllReady.cons rfl (fun K hK => ?_) AllReady.nil)
         ·refine ints_append_step (w0:=Vw) Vw.heap.size rfl (.tmp 71) (.tmp 73) 31 3 rfl Tryz.underlying31 infoInt v42 (xs.take j) [(k:Int)] _ 1 1 rfl rfl h42 (C_one c44) hb3 hb3.size (by simp <;> omega) hn42 ?_
          intro v45 V4 h45 hb4 hg4 hn45
          refine hK _ _ ?_
          clear hK K
          refine wpAny_ready (rs:=[11]) (by kernel_rfl) (by simp) ?_
          refine (AllReady.cons rfl (fun K hK => ?_) AllReady.nil)
          ·refine ints_append_step (w0:=Vw) Vw.heap.size rfl (.tmp 74) (.tmp 77) 31 3 rfl Tryz.underlying31 infoInt v45 (xs.take j++[(k:Int)]) (xs.drop j) _ _ _ rfl rfl h45 (C_dropN (Kd.C_below hXV hb4) hjn hcX) hb4 hb4.size (by simp <;> omega) hn45 ?_
           intro vZ V5 hZ hb5 hg5 hnZ
           refine hK _ _ ?_
           clear hK K
           refine wpAny_ready (rs:=[12]) (by kernel_rfl) (by simp) ?_
           refine (AllReady.cons rfl (fun K hK => ?_) AllReady.nil)
           ·go_simp
            refine hK _ _ ?_
            clear hK K
            refine wpAny_done (by kernel_rfl) ?_ _
            have hbZ:=hb5
            try simp only [Act.put,List.setIfInBounds_toArray,List.set_cons_succ,List.set_cons_zero]
            go_wp2
            go_roundw
            case rel =>
             rw [HJ.out] at hZ
             rw [← insP_eq,← HX2.out] at hZ
             exact ⟨k+1,by omega,by go_num,Kd.R_lower hZ (Nat.le_trans hwl hbV.size),hnZ,below_next (below_next hb hb.size hbV) (Nat.le_trans hwl hbV.size) hbZ⟩
            case measure=>simp [intOf];omega
       ·go_simp
        refine hK _ _ ?_
        clear hK K
        have c44:(V1.alloc (.cells #[.int .i64 (k:Int)] 3)).cell? ⟨V1.heap.size,0,none⟩=some (.int .i64 (k:Int)):=by simp
        have h38:=Kd.R_alloc h38 (.cells #[.int .i64 (k:Int)] 3)
        have hb7:=hb1.alloc hb1.size (.cells #[.int .i64 (k:Int)] 3)
        have hs7:Hid ((V1.alloc (.cells #[.int .i64 (k:Int)] 3)).heap.size=V1.heap.size+1):=by show _=_;simp
        obtain ⟨V7,hV7⟩:∃ V,V=V1.alloc (.cells #[.int .i64 (k:Int)] 3):=⟨_,rfl⟩
        rw [← hV7] at hb7 hs7 h38 c44 ⊢
        clear hV7
        refine wpAny_ready (rs:=[4]) (by kernel_rfl) (by simp) ?_
        refine (AllReady.cons rfl (fun K hK => ?_) AllReady.nil)
        ·refine ints_append_step (w0:=Vw) Vw.heap.size rfl (.tmp 67) (.tmp 70) 31 3 rfl Tryz.underlying31 infoInt (.slice (some ⟨V0.heap.size,0,none⟩) 0 0) [] (xs.take j) (some ad1) j cX rfl rfl h38 (C_takeN (Kd.C_below hXV hb7) hjn) hb7 hb7.size (by simp <;> omega) (by simp [Value.ownBlock]) ?_
         intro v42 V8 h42 hb8 hg8 hn42
         refine hK _ _ ?_
         clear hK K
         simp only [List.nil_append] at h42
         have c44:=hg8.cell c44 (by have ehs1:=hs1.out;have ehs7:=hs7.out;simp [Value.ownBlock];omega)
         refine wpAny_ready (rs:=[7]) (by kernel_rfl) (by simp) ?_
         refine (AllReady.cons rfl (fun K hK => ?_) AllReady.nil)
         ·refine ints_append_step (w0:=Vw) Vw.heap.size rfl (.tmp 71) (.tmp 73) 31 3 rfl Tryz.underlying31 infoInt v42 (xs.take j) [(k:Int)] _ 1 1 rfl rfl h42 (C_one c44) hb8 hb8.size (by simp <;> omega) hn42 ?_
          intro v45 V9 h45 hb9 hg9 hn45
          refine hK _ _ ?_
          clear hK K
          refine wpAny_ready (rs:=[11]) (by kernel_rfl) (by simp) ?_
          refine (AllReady.cons rfl (fun K hK => ?_) AllReady.nil)
          ·refine ints_append_step (w0:=Vw) Vw.heap.size rfl (.tmp 74) (.tmp 77) 31 3 rfl Tryz.underlying31 infoInt v45 (xs.take j++[(k:Int)]) (xs.drop j) _ _ _ rfl rfl h45 (C_dropN (Kd.C_below hXV hb9) hjn hcX) hb9 hb9.size (by simp <;> omega) hn45 ?_
           intro vZ V10 hZ hb10 hg10 hnZ
           refine hK _ _ ?_
           clear hK K
           refine wpAny_ready (rs:=[12]) (by kernel_rfl) (by simp) ?_
           refine (AllReady.cons rfl (fun K hK => ?_) AllReady.nil)
           ·go_simp
            refine hK _ _ ?_
            clear hK K
            refine wpAny_done (by kernel_rfl) ?_ _
            have hbZ:=hb10
            try simp only [Act.put,List.setIfInBounds_toArray,List.set_cons_succ,List.set_cons_zero]
            go_wp2
            go_roundw
            case rel =>
             rw [HJ.out] at hZ
             rw [← insP_eq,← HX2.out] at hZ
             exact ⟨k+1,by omega,by go_num,Kd.R_lower hZ (Nat.le_trans hwl hbV.size),hnZ,below_next (below_next hb hb.size hbV) (Nat.le_trans hwl hbV.size) hbZ⟩
            case measure=>simp [intOf];omega
      ·go_simp
       refine hK _ _ ?_
       clear hK K
       have c44:(V0.alloc (.cells #[.int .i64 (k:Int)] 3)).cell? ⟨V0.heap.size,0,none⟩=some (.int .i64 (k:Int)):=by simp
       have hb12:=hb0.alloc hb0.size (.cells #[.int .i64 (k:Int)] 3)
       have hs12:Hid ((V0.alloc (.cells #[.int .i64 (k:Int)] 3)).heap.size=V0.heap.size+1):=by show _=_;simp
       obtain ⟨V12,hV12⟩:∃ V,V=V0.alloc (.cells #[.int .i64 (k:Int)] 3):=⟨_,rfl⟩
       rw [← hV12] at hb12 hs12 c44 ⊢
       clear hV12
       refine wpAny_ready (rs:=[0]) (by kernel_rfl) (by simp) ?_
       refine (AllReady.cons rfl (fun K hK => ?_) AllReady.nil)
       ·go_simp
        refine hK _ _ ?_
        clear hK K
        have h38:Kd.R (Kd.int .i64) 3 (V12.alloc (.cells #[] 3)) Vw.heap.size (fun _=>True) (.slice (some ⟨V12.heap.size,0,none⟩) 0 0) []:=Kd.R_of_own (World.ownsRow_made V12 #[] 0 hb12.size (Nat.zero_le _) rfl) (fun _ _=>trivial)
        have c44:=cell_al c44 (.cells #[] 3)
        have hb13:=hb12.alloc hb12.size (.cells #[] 3)
        have hs13:Hid ((V12.alloc (.cells #[] 3)).heap.size=V12.heap.size+1):=by show _=_;simp
        obtain ⟨V13,hV13⟩:∃ V,V=V12.alloc (.cells #[] 3):=⟨_,rfl⟩
        rw [← hV13] at hb13 hs13 c44 h38 ⊢
        clear hV13
        refine wpAny_ready (rs:=[4]) (by kernel_rfl) (by simp) ?_
        refine (AllReady.cons rfl (fun K hK => ?_) AllReady.nil)
        ·refine ints_append_step (w0:=Vw) Vw.heap.size rfl (.tmp 67) (.tmp 70) 31 3 rfl Tryz.underlying31 infoInt (.slice (some ⟨V12.heap.size,0,none⟩) 0 0) [] (xs.take j) (some ad1) j cX rfl rfl h38 (C_takeN (Kd.C_below hXV hb13) hjn) hb13 hb13.size (by simp <;> omega) (by simp [Value.ownBlock]) ?_
         intro v42 V14 h42 hb14 hg14 hn42
         refine hK _ _ ?_
         clear hK K
         simp only [List.nil_append] at h42
         have c44:=hg14.cell c44 (by have ehs12:=hs12.out;have ehs13:=hs13.out;simp [Value.ownBlock];omega)
         refine wpAny_ready (rs:=[7]) (by kernel_rfl) (by simp) ?_
         refine (AllReady.cons rfl (fun K hK => ?_) AllReady.nil)
         ·refine ints_append_step (w0:=Vw) Vw.heap.size rfl (.tmp 71) (.tmp 73) 31 3 rfl Tryz.underlying31 infoInt v42 (xs.take j) [(k:Int)] _ 1 1 rfl rfl h42 (C_one c44) hb14 hb14.size (by simp <;> omega) hn42 ?_
          intro v45 V15 h45 hb15 hg15 hn45
          refine hK _ _ ?_
          clear hK K
          refine wpAny_ready (rs:=[11]) (by kernel_rfl) (by simp) ?_
          refine (AllReady.cons rfl (fun K hK => ?_) AllReady.nil)
          ·refine ints_append_step (w0:=Vw) Vw.heap.size rfl (.tmp 74) (.tmp 77) 31 3 rfl Tryz.underlying31 infoInt v45 (xs.take j++[(k:Int)]) (xs.drop j) _ _ _ rfl rfl h45 (C_dropN (Kd.C_below hXV hb15) hjn hcX) hb15 hb15.size (by simp <;> omega) hn45 ?_
           intro vZ V16 hZ hb16 hg16 hnZ
           refine hK _ _ ?_
           clear hK K
           refine wpAny_ready (rs:=[12]) (by kernel_rfl) (by simp) ?_
           refine (AllReady.cons rfl (fun K hK => ?_) AllReady.nil)
           ·go_simp
            refine hK _ _ ?_
            clear hK K
            refine wpAny_done (by kernel_rfl) ?_ _
            have hbZ:=hb16
            try simp only [Act.put,List.setIfInBounds_toArray,List.set_cons_succ,List.set_cons_zero]
            go_wp2
            go_roundw
            case rel =>
             rw [HJ.out] at hZ
             rw [← insP_eq,← HX2.out] at hZ
             exact ⟨k+1,by omega,by go_num,Kd.R_lower hZ (Nat.le_trans hwl hbV.size),hnZ,below_next (below_next hb hb.size hbV) (Nat.le_trans hwl hbV.size) hbZ⟩
            case measure=>simp [intOf];omega
    ·have e0:decide ((j:Int)<xs.length)=false:=decide_eq_false (by omega)
     have e0':decide (j<xs.length)=false:=decide_eq_false hjx
     have hjq:j=cntQ (noLater l k) xs:=by omega
     have hjn:j≤xs.length:=by omega
     have HJ:=Lib.hid hjq
     clear hjq hcl
     go_wp2
     go_quiet (fail)
     rename_i nq
     go_wp2
     obtain ⟨Vw,hV⟩:∃ Vw,Vw=(World.drewN (World.drewN W1 q) nq):=⟨_,rfl⟩
     rw [← hV]
     have hbV:Below W1.heap.size W1 Vw:=by rw [hV];exact pw_below_drewN (pw_below_drewN (Below.refl _ _) _) _
     have hXV:=Kd.C_below hX hbV
     clear hV
     refine wp_region_any (by kernel_rfl) ?_
     change wpAny _ _ _ _ _ _ _ (World.drew _)
     have hjc_:j≤cX:=Nat.le_trans hjn hcX
     (refine wpAny_take (i:=1) (v := ?_) rfl (by kernel_rfl) (by kernel_rfl) (by kernel_rfl) (fun _ _ _ h=>h) (Or.inl ⟨by rfl,?_⟩) ?_;rotate_left;(intro w;go_simp;try (with_reducible rfl));rotate_left)
     (refine wpAny_take (i:=2) (v := ?_) rfl (by kernel_rfl) (by kernel_rfl) (by kernel_rfl) (fun _ _ _ h=>h) (Or.inl ⟨by rfl,?_⟩) ?_;rotate_left;(intro w;go_simp;try (with_reducible rfl));rotate_left)
     (refine wpAny_take (i:=3) (v := ?_) rfl (by kernel_rfl) (by kernel_rfl) (by kernel_rfl) (fun _ _ _ h=>h) (Or.inl ⟨by rfl,?_⟩) ?_;rotate_left;(intro w;go_simp;try (with_reducible rfl));rotate_left)
     (refine wpAny_take (i:=5) (v := ?_) rfl (by kernel_rfl) (by kernel_rfl) (by kernel_rfl) (fun _ _ _ h=>h) (Or.inl ⟨by rfl,?_⟩) ?_;rotate_left;(intro w;go_simp;try (with_reducible rfl));rotate_left)
     (refine wpAny_take (i:=8) (v := ?_) rfl (by kernel_rfl) (by kernel_rfl) (by kernel_rfl) (fun _ _ _ h=>h) (Or.inl ⟨by rfl,?_⟩) ?_;rotate_left;(intro w;go_simp;try (with_reducible rfl));rotate_left)
     (refine wpAny_take (i:=9) (v := ?_) rfl (by kernel_rfl) (by kernel_rfl) (by kernel_rfl) (fun _ _ _ h=>h) (Or.inl ⟨by rfl,?_⟩) ?_;rotate_left;(intro w;go_simp;try (with_reducible rfl));rotate_left)
     (refine wpAny_take (i:=10) (v := ?_) rfl (by kernel_rfl) (by kernel_rfl) (by kernel_rfl) (fun _ _ _ h=>h) (Or.inl ⟨by rfl,?_⟩) ?_;rotate_left;(intro w;go_simp;try (with_reducible rfl));rotate_left)
     obtain ⟨V0,hV0⟩:∃ V,V=World.drew Vw:=⟨_,rfl⟩
     rw [← hV0]
     have hb0:Below Vw.heap.size Vw V0:=by rw [hV0];exact (Below.refl _ _).drew
     clear hV0
     refine wpAny_ready (rs:=[0,6]) (by kernel_rfl) (by simp) ?_
     refine (AllReady.cons rfl (fun K hK => ?_) (AllReady.cons rfl (fun K hK => ?_) AllReady.nil))
     ·go_simp
      refine hK _ _ ?_
      clear hK K
      have h38:Kd.R (Kd.int .i64) 3 (V0.alloc (.cells #[] 3)) Vw.heap.size (fun _=>True) (.slice (some ⟨V0.heap.size,0,none⟩) 0 0) []:=Kd.R_of_own (World.ownsRow_made V0 #[] 0 hb0.size (Nat.zero_le _) rfl) (fun _ _=>trivial)
      have hb1:=hb0.alloc hb0.size (.cells #[] 3)
      have hs1:Hid ((V0.alloc (.cells #[] 3)).heap.size=V0.heap.size+1):=by show _=_;simp
      obtain ⟨V1,hV1⟩:∃ V,V=V0.alloc (.cells #[] 3):=⟨_,rfl⟩
      rw [← hV1] at hb1 hs1 h38 ⊢
      clear hV1
      refine wpAny_ready (rs:=[4,6]) (by kernel_rfl) (by simp) ?_
      refine (AllReady.cons rfl (fun K hK => ?_) (AllReady.cons rfl (fun K hK => ?_) AllReady.nil))
      ·refine ints_append_step (w0:=Vw) Vw.heap.size rfl (.tmp 67) (.tmp 70) 31 3 rfl Tryz.underlying31 infoInt (.slice (some ⟨V0.heap.size,0,none⟩) 0 0) [] (xs.take j) (some ad1) j cX rfl rfl h38 (C_takeN (Kd.C_below hXV hb1) hjn) hb1 hb1.size (by simp <;> omega) (by simp [Value.ownBlock]) ?_
       intro v42 V2 h42 hb2 hg2 hn42
       refine hK _ _ ?_
       clear hK K
       simp only [List.nil_append] at h42
       refine wpAny_ready (rs:=[6]) (by kernel_rfl) (by simp) ?_
       refine (AllReady.cons rfl (fun K hK => ?_) AllReady.nil)
       ·go_simp
        refine hK _ _ ?_
        clear hK K
        have c44:(V2.alloc (.cells #[.int .i64 (k:Int)] 3)).cell? ⟨V2.heap.size,0,none⟩=some (.int .i64 (k:Int)):=by simp
        have h42:=Kd.R_alloc h42 (.cells #[.int .i64 (k:Int)] 3)
        have hb3:=hb2.alloc hb2.size (.cells #[.int .i64 (k:Int)] 3)
        have hs3:Hid ((V2.alloc (.cells #[.int .i64 (k:Int)] 3)).heap.size=V2.heap.size+1):=by show _=_;simp
        obtain ⟨V3,hV3⟩:∃ V,V=V2.alloc (.cells #[.int .i64 (k:Int)] 3):=⟨_,rfl⟩
        rw [← hV3] at hb3 hs3 h42 c44 ⊢
        clear hV3
        refine wpAny_ready (rs:=[7]) (by kernel_rfl) (by simp) ?_
        refine (AllReady.cons rfl (fun K hK => ?_) AllReady.nil)
        ·refine ints_append_step (w0:=Vw) Vw.heap.size rfl (.tmp 71) (.tmp 73) 31 3 rfl Tryz.underlying31 infoInt v42 (xs.take j) [(k:Int)] _ 1 1 rfl rfl h42 (C_one c44) hb3 hb3.size (by simp <;> omega) hn42 ?_
         intro v45 V4 h45 hb4 hg4 hn45
         refine hK _ _ ?_
         clear hK K
         refine wpAny_ready (rs:=[11]) (by kernel_rfl) (by simp) ?_
         refine (AllReady.cons rfl (fun K hK => ?_) AllReady.nil)
         ·refine ints_append_step (w0:=Vw) Vw.heap.size rfl (.tmp 74) (.tmp 77) 31 3 rfl Tryz.underlying31 infoInt v45 (xs.take j++[(k:Int)]) (xs.drop j) _ _ _ rfl rfl h45 (C_dropN (Kd.C_below hXV hb4) hjn hcX) hb4 hb4.size (by simp <;> omega) hn45 ?_
          intro vZ V5 hZ hb5 hg5 hnZ
          refine hK _ _ ?_
          clear hK K
          refine wpAny_ready (rs:=[12]) (by kernel_rfl) (by simp) ?_
          refine (AllReady.cons rfl (fun K hK => ?_) AllReady.nil)
          ·go_simp
           refine hK _ _ ?_
           clear hK K
           refine wpAny_done (by kernel_rfl) ?_ _
           have hbZ:=hb5
           try simp only [Act.put,List.setIfInBounds_toArray,List.set_cons_succ,List.set_cons_zero]
           go_wp2
           go_roundw
           case rel =>
            rw [HJ.out] at hZ
            rw [← insP_eq,← HX2.out] at hZ
            exact ⟨k+1,by omega,by go_num,Kd.R_lower hZ (Nat.le_trans hwl hbV.size),hnZ,below_next (below_next hb hb.size hbV) (Nat.le_trans hwl hbV.size) hbZ⟩
           case measure=>simp [intOf];omega
      ·go_simp
       refine hK _ _ ?_
       clear hK K
       have c44:(V1.alloc (.cells #[.int .i64 (k:Int)] 3)).cell? ⟨V1.heap.size,0,none⟩=some (.int .i64 (k:Int)):=by simp
       have h38:=Kd.R_alloc h38 (.cells #[.int .i64 (k:Int)] 3)
       have hb7:=hb1.alloc hb1.size (.cells #[.int .i64 (k:Int)] 3)
       have hs7:Hid ((V1.alloc (.cells #[.int .i64 (k:Int)] 3)).heap.size=V1.heap.size+1):=by show _=_;simp
       obtain ⟨V7,hV7⟩:∃ V,V=V1.alloc (.cells #[.int .i64 (k:Int)] 3):=⟨_,rfl⟩
       rw [← hV7] at hb7 hs7 h38 c44 ⊢
       clear hV7
       refine wpAny_ready (rs:=[4]) (by kernel_rfl) (by simp) ?_
       refine (AllReady.cons rfl (fun K hK => ?_) AllReady.nil)
       ·refine ints_append_step (w0:=Vw) Vw.heap.size rfl (.tmp 67) (.tmp 70) 31 3 rfl Tryz.underlying31 infoInt (.slice (some ⟨V0.heap.size,0,none⟩) 0 0) [] (xs.take j) (some ad1) j cX rfl rfl h38 (C_takeN (Kd.C_below hXV hb7) hjn) hb7 hb7.size (by simp <;> omega) (by simp [Value.ownBlock]) ?_
        intro v42 V8 h42 hb8 hg8 hn42
        refine hK _ _ ?_
        clear hK K
        simp only [List.nil_append] at h42
        have c44:=hg8.cell c44 (by have ehs1:=hs1.out;have ehs7:=hs7.out;simp [Value.ownBlock];omega)
        refine wpAny_ready (rs:=[7]) (by kernel_rfl) (by simp) ?_
        refine (AllReady.cons rfl (fun K hK => ?_) AllReady.nil)
        ·refine ints_append_step (w0:=Vw) Vw.heap.size rfl (.tmp 71) (.tmp 73) 31 3 rfl Tryz.underlying31 infoInt v42 (xs.take j) [(k:Int)] _ 1 1 rfl rfl h42 (C_one c44) hb8 hb8.size (by simp <;> omega) hn42 ?_
         intro v45 V9 h45 hb9 hg9 hn45
         refine hK _ _ ?_
         clear hK K
         refine wpAny_ready (rs:=[11]) (by kernel_rfl) (by simp) ?_
         refine (AllReady.cons rfl (fun K hK => ?_) AllReady.nil)
         ·refine ints_append_step (w0:=Vw) Vw.heap.size rfl (.tmp 74) (.tmp 77) 31 3 rfl Tryz.underlying31 infoInt v45 (xs.take j++[(k:Int)]) (xs.drop j) _ _ _ rfl rfl h45 (C_dropN (Kd.C_below hXV hb9) hjn hcX) hb9 hb9.size (by simp <;> omega) hn45 ?_
          intro vZ V10 hZ hb10 hg10 hnZ
          refine hK _ _ ?_
          clear hK K
          refine wpAny_ready (rs:=[12]) (by kernel_rfl) (by simp) ?_
          refine (AllReady.cons rfl (fun K hK => ?_) AllReady.nil)
          ·go_simp
           refine hK _ _ ?_
           clear hK K
           refine wpAny_done (by kernel_rfl) ?_ _
           have hbZ:=hb10
           try simp only [Act.put,List.setIfInBounds_toArray,List.set_cons_succ,List.set_cons_zero]
           go_wp2
           go_roundw
           case rel =>
            rw [HJ.out] at hZ
            rw [← insP_eq,← HX2.out] at hZ
            exact ⟨k+1,by omega,by go_num,Kd.R_lower hZ (Nat.le_trans hwl hbV.size),hnZ,below_next (below_next hb hb.size hbV) (Nat.le_trans hwl hbV.size) hbZ⟩
           case measure=>simp [intOf];omega
     ·go_simp
      refine hK _ _ ?_
      clear hK K
      have c44:(V0.alloc (.cells #[.int .i64 (k:Int)] 3)).cell? ⟨V0.heap.size,0,none⟩=some (.int .i64 (k:Int)):=by simp
      have hb12:=hb0.alloc hb0.size (.cells #[.int .i64 (k:Int)] 3)
      have hs12:Hid ((V0.alloc (.cells #[.int .i64 (k:Int)] 3)).heap.size=V0.heap.size+1):=by show _=_;simp
      obtain ⟨V12,hV12⟩:∃ V,V=V0.alloc (.cells #[.int .i64 (k:Int)] 3):=⟨_,rfl⟩
      rw [← hV12] at hb12 hs12 c44 ⊢
      clear hV12
      refine wpAny_ready (rs:=[0]) (by kernel_rfl) (by simp) ?_
      refine (AllReady.cons rfl (fun K hK => ?_) AllReady.nil)
      ·go_simp
       refine hK _ _ ?_
       clear hK K
       have h38:Kd.R (Kd.int .i64) 3 (V12.alloc (.cells #[] 3)) Vw.heap.size (fun _=>True) (.slice (some ⟨V12.heap.size,0,none⟩) 0 0) []:=Kd.R_of_own (World.ownsRow_made V12 #[] 0 hb12.size (Nat.zero_le _) rfl) (fun _ _=>trivial)
       have c44:=cell_al c44 (.cells #[] 3)
       have hb13:=hb12.alloc hb12.size (.cells #[] 3)
       have hs13:Hid ((V12.alloc (.cells #[] 3)).heap.size=V12.heap.size+1):=by show _=_;simp
       obtain ⟨V13,hV13⟩:∃ V,V=V12.alloc (.cells #[] 3):=⟨_,rfl⟩
       rw [← hV13] at hb13 hs13 c44 h38 ⊢
       clear hV13
       refine wpAny_ready (rs:=[4]) (by kernel_rfl) (by simp) ?_
       refine (AllReady.cons rfl (fun K hK => ?_) AllReady.nil)
       ·refine ints_append_step (w0:=Vw) Vw.heap.size rfl (.tmp 67) (.tmp 70) 31 3 rfl Tryz.underlying31 infoInt (.slice (some ⟨V12.heap.size,0,none⟩) 0 0) [] (xs.take j) (some ad1) j cX rfl rfl h38 (C_takeN (Kd.C_below hXV hb13) hjn) hb13 hb13.size (by simp <;> omega) (by simp [Value.ownBlock]) ?_
        intro v42 V14 h42 hb14 hg14 hn42
        refine hK _ _ ?_
        clear hK K
        simp only [List.nil_append] at h42
        have c44:=hg14.cell c44 (by have ehs12:=hs12.out;have ehs13:=hs13.out;simp [Value.ownBlock];omega)
        refine wpAny_ready (rs:=[7]) (by kernel_rfl) (by simp) ?_
        refine (AllReady.cons rfl (fun K hK => ?_) AllReady.nil)
        ·refine ints_append_step (w0:=Vw) Vw.heap.size rfl (.tmp 71) (.tmp 73) 31 3 rfl Tryz.underlying31 infoInt v42 (xs.take j) [(k:Int)] _ 1 1 rfl rfl h42 (C_one c44) hb14 hb14.size (by simp <;> omega) hn42 ?_
         intro v45 V15 h45 hb15 hg15 hn45
         refine hK _ _ ?_
         clear hK K
         refine wpAny_ready (rs:=[11]) (by kernel_rfl) (by simp) ?_
         refine (AllReady.cons rfl (fun K hK => ?_) AllReady.nil)
         ·refine ints_append_step (w0:=Vw) Vw.heap.size rfl (.tmp 74) (.tmp 77) 31 3 rfl Tryz.underlying31 infoInt v45 (xs.take j++[(k:Int)]) (xs.drop j) _ _ _ rfl rfl h45 (C_dropN (Kd.C_below hXV hb15) hjn hcX) hb15 hb15.size (by simp <;> omega) hn45 ?_
          intro vZ V16 hZ hb16 hg16 hnZ
          refine hK _ _ ?_
          clear hK K
          refine wpAny_ready (rs:=[12]) (by kernel_rfl) (by simp) ?_
          refine (AllReady.cons rfl (fun K hK => ?_) AllReady.nil)
          ·go_simp
           refine hK _ _ ?_
           clear hK K
           refine wpAny_done (by kernel_rfl) ?_ _
           have hbZ:=hb16
           try simp only [Act.put,List.setIfInBounds_toArray,List.set_cons_succ,List.set_cons_zero]
           go_wp2
           go_roundw
           case rel =>
            rw [HJ.out] at hZ
            rw [← insP_eq,← HX2.out] at hZ
            exact ⟨k+1,by omega,by go_num,Kd.R_lower hZ (Nat.le_trans hwl hbV.size),hnZ,below_next (below_next hb hb.size hbV) (Nat.le_trans hwl hbV.size) hbZ⟩
           case measure=>simp [intOf];omega
  ·go_wp2
   go_ret
   obtain rfl:k=l.length:=by omega
   exact ⟨_,rfl,hO.out,hb⟩
end Go.Proofs.YthcpbojmalgdbaaGreatDoor.Q
namespace Go.Proofs.YthcpbojmalgdbaaGreatDoor.Q
open Go.RowKit Go.Proofs.YthcpbojmalgdbaaGreatDoorW.PrintWords Go.Proofs.YthcpbojmalgdbaaGreatDoor.Core Go.Sort
theorem flAt_get {l:List Flight} {n:Nat} {f:Flight} (h:l[n]? = some f):flAt l n=f:=by
 unfold flAt;rw [Int.toNat_natCast,List.getD_eq_getElem?_getD,h];rfl
theorem grow2 (w:World) (o1 o2:Obj):((w.drew.alloc o1).alloc o2)=grow (w.drewN 1) #[o1,o2]:=by rw [alloc_eq_grow,alloc_eq_grow,grow_grow];rfl
set_option maxRecDepth 100000 in
set_option maxHeartbeats 2000000 in
theorem less_any (A:Option Addr) (c:Nat) (l:List Flight) (pl po:Addr) (g n cap i k x y:Nat) (W:World) (hpl:W.cell? pl=some (.slice A l.length c)) (hpo:W.cell? po=some (.slice (some ⟨g,0,none⟩) n cap))
  (hr:Kd.C k45 W A l.length l) (hi:W.cell? ⟨g,i,none⟩=some (.int .i64 x)) (hk:W.cell? ⟨g,k,none⟩=some (.int .i64 y)) (hin:i<n) (hkn:k<n) (hn:n≤9223372036854775807) (hx:x<l.length) (hy:y<l.length) :
  Calls Tryz.prog 113 #[.int .i64 i, .int .i64 k, .pointer (some pl), .pointer (some po)] W fun e w'=>e = .returned (.bool (lB l x y))∧∃ q os,w'=grow (W.drewN q) os:=by
 obtain ⟨ad,f,A3,c3,rfl,hf,f0,f1,f2,f3,hl3,hr3⟩:=flightAt hr x hx
 obtain ⟨ad',o,A4,c4,ead,ho,o0,o1,o2,o3,hl4,hr4⟩:=flightAt hr y hy
 obtain rfl:ad=ad':=by injection ead
 have hcl:=C_len hr
 have j0:(i:Int)<n:=by omega
 have j1:(k:Int)<n:=by omega
 have j2:(x:Int)<l.length:=by omega
 have j3:(y:Int)<l.length:=by omega
 have hL:lB l x y=aheadB f o:=by unfold lB;rw [flAt_get hf,flAt_get ho]
 have HL:=Lib.hid hL
 clear hL hf ho ead hl3 hr3 hl4 hr4 hr
 have n1:=World.new_ne W _ hpl
 have n2:=World.new_ne W _ hpo
 have n3:=World.new_ne W _ hi
 have n4:=World.new_ne W _ hk
 have n5:=World.new_ne W _ f0
 have n6:=World.new_ne W _ o0
 by_cases hp:f.f1=o.f1
 ·have e1:(f.f1 != o.f1)=false:=by simp [hp]
  have HP:=Lib.hid hp
  clear hp
  go_enter Tryz.func113,Tryz.ntmps113
  go_wp2
  go_region_held3 (fun W'=>W'.cell? pl=some (.slice (some ad) l.length c)∧W'.cell? po=some (.slice (some ⟨g,0,none⟩) n cap)∧W'.cell? ⟨g,i,none⟩=some (.int .i64 x)∧W'.cell? ⟨g,k,none⟩=some (.int .i64 y) ∧
   W'.cell? (ad.add (x*4))=some (.string f.f0)∧W'.cell? ⟨(ad.add (x*4)).block,(ad.add (x*4)).off+1,none⟩=some (.int .i64 f.f1)∧W'.cell? ⟨(ad.add (x*4)).block,(ad.add (x*4)).off+2,none⟩=some (.int .i64 f.f2)∧W'.cell? ⟨(ad.add (x*4)).block,(ad.add (x*4)).off+3,none⟩=some (.slice A3 f.f3.length c3) ∧
   W'.cell? (ad.add (y*4))=some (.string o.f0)∧W'.cell? ⟨(ad.add (y*4)).block,(ad.add (y*4)).off+1,none⟩=some (.int .i64 o.f1)∧W'.cell? ⟨(ad.add (y*4)).block,(ad.add (y*4)).off+2,none⟩=some (.int .i64 o.f2)∧W'.cell? ⟨(ad.add (y*4)).block,(ad.add (y*4)).off+3,none⟩=some (.slice A4 o.f3.length c4)) (go_keep) (fail)
  all_goals
   go_wp2
   go_ret
   exact ⟨ret_bool (by rw [HL.out];unfold aheadB;rw [if_pos HP.out];rfl),_,_,grow2 _ _ _⟩
 ·have e1:(f.f1 != o.f1)=true:=by simp [hp]
  have HP:=Lib.hid hp
  clear hp
  go_enter Tryz.func113,Tryz.ntmps113
  go_wp2
  go_region_held3 (fun W'=>W'.cell? pl=some (.slice (some ad) l.length c)∧W'.cell? po=some (.slice (some ⟨g,0,none⟩) n cap)∧W'.cell? ⟨g,i,none⟩=some (.int .i64 x)∧W'.cell? ⟨g,k,none⟩=some (.int .i64 y) ∧
   W'.cell? (ad.add (x*4))=some (.string f.f0)∧W'.cell? ⟨(ad.add (x*4)).block,(ad.add (x*4)).off+1,none⟩=some (.int .i64 f.f1)∧W'.cell? ⟨(ad.add (x*4)).block,(ad.add (x*4)).off+2,none⟩=some (.int .i64 f.f2)∧W'.cell? ⟨(ad.add (x*4)).block,(ad.add (x*4)).off+3,none⟩=some (.slice A3 f.f3.length c3) ∧
   W'.cell? (ad.add (y*4))=some (.string o.f0)∧W'.cell? ⟨(ad.add (y*4)).block,(ad.add (y*4)).off+1,none⟩=some (.int .i64 o.f1)∧W'.cell? ⟨(ad.add (y*4)).block,(ad.add (y*4)).off+2,none⟩=some (.int .i64 o.f2)∧W'.cell? ⟨(ad.add (y*4)).block,(ad.add (y*4)).off+3,none⟩=some (.slice A4 o.f3.length c4)) (go_keep) (fail)
  all_goals
   go_wp2
   go_ret
   exact ⟨ret_bool (by rw [HL.out];unfold aheadB;rw [if_neg HP.out]),_,_,grow2 _ _ _⟩
end Go.Proofs.YthcpbojmalgdbaaGreatDoor.Q
namespace Go.Proofs.YthcpbojmalgdbaaGreatDoor.Q
open Go.RowKit Go.Proofs.YthcpbojmalgdbaaGreatDoorW.PrintWords Go.Proofs.YthcpbojmalgdbaaGreatDoor.Core
open Go.Sort hiding Below
structure Srt (l:List Flight) (w w0:World) (A:Option Addr) (c:Nat) (pl po:Addr) (g cap:Nat):Prop where
 below:Below w.heap.size w w0
 hwg:w.heap.size≤g
 hg:g<w0.heap.size
 hpl:w0.cell? pl=some (.slice A l.length c)
 hpo:w0.cell? po=some (.slice (some ⟨g,0,none⟩) l.length cap)
 npl:pl.block≠g
 npo:po.block≠g
 hr:Kd.C k45 w A l.length l
 hl:l.length≤2000000
 row:∃ d0:Array Int,d0.size=l.length∧Holds (Value.int .i64) w0 g 0 d0
def SW (l:List Flight) (w0:World) (g:Nat) (d:Array Int) (W:World):Prop :=
 d.size=l.length∧(∀ k,k<l.length→∃ x:Nat,d[k]! = (x:Int)∧x<l.length)∧∃ m os,W=grow (putRow (Value.int .i64) (Sort.ahead w0 m) g 0 d) os
section
variable {l:List Flight} {w w0 W:World} {A:Option Addr} {c g cap:Nat} {pl po:Addr} {d:Array Int}
theorem SW.cell (S:Srt l w w0 A c pl po g cap) (h:SW l w0 g d W) {a:Addr} {v:Value} (ha:a.block≠g) (hc:w0.cell? a=some v):W.cell? a=some v:=by
 obtain ⟨_,_,m,os,rfl⟩:=h
 rw [cell?_grow _ _ _ (by rw [size_putRow];exact World.block_lt_of_cell? w0 a hc),cell?_putRow_other _ _ _ _ _ _ (Or.inl ha)]
 exact hc
theorem SW.holds (S:Srt l w w0 A c pl po g cap) (h:SW l w0 g d W):Holds (Value.int .i64) W g 0 d:=by
 obtain ⟨hd,_,m,os,rfl⟩:=h
 obtain ⟨d0,hd0,h0⟩:=S.row
 exact holds_grow _ _ _ _ _ _ (by rw [size_putRow];exact S.hg) (holds_putRow _ _ _ _ d0 d (holds_ahead _ _ _ _ _ _ h0) (by omega))
theorem SW.row (S:Srt l w w0 A c pl po g cap) (h:SW l w0 g d W) (k:Nat) (hk:k<l.length):W.cell? ⟨g,k,none⟩=some (.int .i64 d[k]!):=by
 have:=(h.holds S k (by rw [h.1];exact hk)).1
 rwa [Nat.zero_add] at this
theorem SW.lt (S:Srt l w w0 A c pl po g cap) (h:SW l w0 g d W):g<W.heap.size:=by
 obtain ⟨_,_,m,os,rfl⟩:=h
 have:=S.hg
 rw [size_grow,size_putRow]
 show g<w0.heap.size+os.size
 omega
theorem SW.size (S:Srt l w w0 A c pl po g cap) (h:SW l w0 g d W):w0.heap.size≤W.heap.size:=by
 obtain ⟨_,_,m,os,rfl⟩:=h
 rw [size_grow,size_putRow]
 show w0.heap.size≤w0.heap.size+os.size
 omega
theorem SW.below (S:Srt l w w0 A c pl po g cap) (h:SW l w0 g d W):Below w.heap.size w W:=by
 have hz:=h.size S
 obtain ⟨_,_,m,os,rfl⟩:=h
 refine ⟨S.below.os,S.below.tape,S.below.output,Nat.le_trans S.below.size hz,fun k hk => ?_⟩
 have h1:=S.below.size
 rw [heap_grow_old _ _ (by rw [size_putRow];show k<w0.heap.size;omega),← S.below.block k hk]
 have h2:=S.hwg
 simp only [putRow,mapBlock,Array.getElem?_modify]
 rw [if_neg (by omega)]
 rfl
theorem SW.grown (h:SW l w0 g d W) (q:Nat) (os:Array Obj):SW l w0 g d (grow (W.drewN q) os):=by
 obtain ⟨h1,h2,m,os',rfl⟩:=h
 refine ⟨h1,h2,m+q,os'++os,?_⟩
 rw [← grow_grow]
 congr 1
 rw [Sort.ahead,Sort.ahead]
 simp only [grow,World.drewN,putRow,mapBlock,Nat.add_assoc]
theorem SW.alloc (h:SW l w0 g d W) (o:Obj):SW l w0 g d (W.alloc o):=by
 have:=h.grown 0 #[o]
 rwa [← alloc_eq_grow] at this
theorem SW.drewN (h:SW l w0 g d W) (q:Nat):SW l w0 g d (W.drewN q):=by
 have:=h.grown q #[]
 rwa [grow_empty] at this
theorem SW.of_start (S:Srt l w w0 A c pl po g cap) (hd:d.size=l.length) (hin:∀ k,k<l.length→∃ x:Nat,d[k]! = (x:Int)∧x<l.length) (h:Holds (Value.int .i64) w0 g 0 d):SW l w0 g d w0 :=
 ⟨hd,hin,0,#[],by rw [grow_empty,ahead_zero,putRow_self _ _ _ _ _ h]⟩
theorem in_swp {d:Array Int} {n:Nat} (hd:d.size=n) (hin:∀ k,k<n→∃ x:Nat,d[k]! = (x:Int)∧x<n) {i j:Nat} (hi:i<n) (hj:j<n):∀ k,k<n→∃ x:Nat,(swp d i j)[k]! = (x:Int)∧x<n:=fun k hk=>by
 rw [swp_get d (by omega) (by omega)]
 split
 ·exact hin i hi
 ·split
  ·exact hin j hj
  ·exact hin k hk
theorem SW.swap (S:Srt l w w0 A c pl po g cap) (h:SW l w0 g d W) {i j:Nat} (hi:i<l.length) (hj:j<l.length) :
  SW l w0 g (swp d i j) ((W.setCell ⟨g,0+i,none⟩ (.int .i64 d[j]!)).setCell ⟨g,0+j,none⟩ (.int .i64 d[i]!)):=by
 obtain ⟨h1,h2,m,os,rfl⟩:=h
 refine ⟨by rw [swp_size];exact h1,in_swp h1 h2 hi hj,m,os,?_⟩
 have hg:=S.hg
 have e:=putRow_swp (Value.int .i64) (Sort.ahead w0 m) g 0 d i j (by omega) (by omega)
 rw [← e]
 simp only [setCell_eq]
 rw [mapBlock_grow _ _ _ _ (by rw [size_putRow];exact hg),mapBlock_grow _ _ _ _ (by simp only [mapBlock,Array.size_modify];rw [size_putRow];exact hg)]
theorem SW.next (S:Srt l w w0 A c pl po g cap) (h:SW l w0 g d W):Srt l w W A c pl po g cap :=
 ⟨h.below S,S.hwg,h.lt S,h.cell S S.npl S.hpl,h.cell S S.npo S.hpo,S.npl,S.npo,S.hr,S.hl,d,h.1,h.holds S⟩
theorem SW.self (S:Srt l w w0 A c pl po g cap) (h:SW l w0 g d W):SW l W g d W:=SW.of_start (h.next S) h.1 h.2.1 (h.holds S)
theorem SW.trans (S:Srt l w w0 A c pl po g cap) {d':Array Int} {W':World} (h:SW l w0 g d W) (h':SW l W g d' W'):SW l w0 g d' W':=by
 obtain ⟨h1,h2,m,os,rfl⟩:=h
 obtain ⟨k1,k2,m',os',rfl⟩:=h'
 refine ⟨k1,k2,m+m',os++os',?_⟩
 rw [ahead_grow,putRow_grow _ _ _ _ _ _ (by show g<(Sort.ahead (putRow _ _ _ _ _) _).heap.size;rw [heap_ahead,size_putRow];exact S.hg),putRow_ahead_putRow _ _ _ _ _ _ _ _ (by omega),grow_grow]
theorem SW.less (S:Srt l w w0 A c pl po g cap) (h:SW l w0 g d W) {i k:Nat} (hi:i<l.length) (hk:k<l.length) :
  Calls Tryz.prog 113 #[.int .i64 i, .int .i64 k, .pointer (some pl), .pointer (some po)] W fun e w'=>e = .returned (.bool (lB l d[i]! d[k]!))∧SW l w0 g d w':=by
 obtain ⟨x,hx,hxl⟩:=h.2.1 i hi
 obtain ⟨y,hy,hyl⟩:=h.2.1 k hk
 have hl:=S.hl
 refine (less_any A c l pl po g l.length cap i k x y W (h.cell S S.npl S.hpl) (h.cell S S.npo S.hpo) (Kd.C_below S.hr (h.below S)) (by rw [← hx];exact h.row S i hi) (by rw [← hy];exact h.row S k hk) hi hk (by omega) hxl hyl).mono ?_
 rintro e w' ⟨rfl,q,os,rfl⟩
 rw [hx,hy]
 exact ⟨rfl,h.grown q os⟩
end
def SwapAt (sf:Nat) (sb:Array Value) (g n:Nat):Prop :=
 ∀ (W:World) (d:Array Int),Holds (Value.int .i64) W g 0 d→d.size=n→∀ i j:Nat,i<n→j<n →
  (callFunc sf (#[.int .i64 i, .int .i64 j]++sb)).run Tryz.prog W = .ok (.value (.tuple #[])) ((W.setCell ⟨g,0+i,none⟩ (.int .i64 d[j]!)).setCell ⟨g,0+j,none⟩ (.int .i64 d[i]!))
theorem enters_less:∀ args w,(callFunc 113 args).run Tryz.prog w = .ok (.enter 113 args) w:=fun args w=>Go.Proofs.YthcpbojmalgdbaaGreatDoorW.PrintLast.enters_ Tryz.func113 (by kernel_rfl) (by kernel_rfl) args w
set_option maxRecDepth 100000 in
set_option maxHeartbeats 4000000 in
theorem insertion_any {l:List Flight} {w w0 W:World} {A:Option Addr} {c g cap:Nat} {pl po:Addr} {d:Array Int} (S:Srt l w w0 A c pl po g cap) (h:SW l w0 g d W) (sf:Nat) (sb:Array Value) (hsw:SwapAt sf sb g l.length) (a b:Nat) (hab:a≤b) (hb:b≤l.length) :
  Calls Tryz.prog 164 #[.agg #[.func (.func 113) #[] #[.pointer (some pl), .pointer (some po)], .func (.func sf) #[] sb], .int .i64 a, .int .i64 b] W fun e w' =>
   e = .returned (.tuple #[])∧SW l w0 g (Sort.insertionSort (lB l) d a b) w':=by
 have hA:=h.alloc (.cells #[.func (.func 113) #[] #[.pointer (some pl), .pointer (some po)], .func (.func sf) #[] sb] 157)
 have c0:(W.alloc (.cells #[.func (.func 113) #[] #[.pointer (some pl), .pointer (some po)], .func (.func sf) #[] sb] 157)).cell? ⟨W.heap.size,0,none⟩=some (.func (.func 113) #[] #[.pointer (some pl), .pointer (some po)]):=by simp
 have c1:(W.alloc (.cells #[.func (.func 113) #[] #[.pointer (some pl), .pointer (some po)], .func (.func sf) #[] sb] 157)).cell? ⟨W.heap.size,1,none⟩=some (.func (.func sf) #[] sb):=by simp
 have hgl:=h.lt S
 have hl:=S.hl
 have eg:=enters_less
 have HT:=Lib.hid (fun d' W' (k:SW l (W.alloc (.cells #[.func (.func 113) #[] #[.pointer (some pl), .pointer (some po)], .func (.func sf) #[] sb] 157)) g d' W')=>SW.trans S hA k)
 have HS:=Lib.hid (hA.next S)
 have h1:=hA.self S
 have HW:=Lib.hid hsw
 have hds:d.size=l.length:=h.1
 clear hsw S h hA
 go_enter Tryz.func164,Tryz.ntmps164
 go_wp2
 obtain ⟨V,hV⟩:∃ V,V=(W.alloc (.cells #[.func (.func 113) #[] #[.pointer (some pl), .pointer (some po)], .func (.func sf) #[] sb] 157)):=⟨_,rfl⟩
 rw [← hV] at c0 c1 HT HS h1 ⊢
 clear hV
 have D:=Lib.hid hds
 have C0:=Lib.hid c0
 have C1:=Lib.hid c1
 clear hds c0 c1
 go_loopw [6] (fun vi wr=>∃ (i:Nat) (dk:Array Int),vi = .int .i64 i∧a<i∧i≤b+1∧Hid (SW l V g dk wr)∧Hid (insOuter (lB l) a b i dk=insOuter (lB l) a b (a+1) d)) (fun vi _=>b+1-(intOf vi).toNat)
 case atStart=>exact ⟨a+1,d,by go_num,by omega,by omega,h1,rfl⟩
 case round =>
  clear h1
  obtain ⟨i,dk,rfl,hai,hib,HK,HO⟩:=hrel
  by_cases hlt:i<b
  ·go_wp2
   obtain ⟨wo,rfl⟩:∃ wo:World,wo=wr:=⟨_,rfl⟩
   go_loopw [7] (fun vj wr2=>∃ (j:Nat) (dj:Array Int),vj = .int .i64 j∧a≤j∧j≤i∧Hid (SW l V g dj wr2)∧Hid (insInner (lB l) a j dj=insInner (lB l) a i dk)) (fun vj _=>(intOf vj).toNat)
   case atStart=>exact ⟨i,dk,rfl,by omega,Nat.le_refl _,HK,rfl⟩
   case round =>
    obtain ⟨j,dj,rfl,haj,hji,HJ,HI⟩:=hrel
    have c0:=HJ.out.cell HS.out (by show W.heap.size≠g;omega) C0.out
    have c1:=HJ.out.cell HS.out (by show W.heap.size≠g;omega) C1.out
    have out:(j≤a∨lB l dj[j]! dj[j-1]! = false)→∀ W',SW l V g dj W'→∃ (i':Nat) (dk':Array Int),Value.int .i64 ((i:Int)+1) = .int .i64 (i':Nat)∧a<i'∧i'≤b+1∧Hid (SW l V g dk' W')∧Hid (insOuter (lB l) a b i' dk'=insOuter (lB l) a b (a+1) d):=fun hs W' hW' =>
     ⟨i+1,dj,by go_num,by omega,by omega,hW',by show _=_;rw [← HO.out,insOuter_go _ _ _ _ _ hlt,← HI.out,insInner_stop _ _ _ _ hs]⟩
    have OUT:=Lib.hid out
    clear out
    by_cases hja:a<j
    ·obtain ⟨j,rfl⟩:∃ q,j=q+1:=⟨j-1,by omega⟩
     have QL:=Lib.hid (HJ.out.less HS.out (i:=j+1) (k:=j) (by omega) (by omega))
     have j1:decide ((a:Int)<(j:Int)+1)=true:=decide_eq_true (by omega)
     cases hlv:lB l dj[j+1]! dj[j]! with
     | true =>
      rw [hlv] at QL
      go_wp2_with (go_at_fn 113;refine QL.out.mono ?_;rintro e w' ⟨rfl,HL⟩;have c2:=HL.cell HS.out (by show W.heap.size≠g;omega) C1.out)
      have hs:(callFunc sf (#[.int .i64 ((j:Int)+1), .int .i64 (j:Int)]++sb)).run Tryz.prog w' = .ok (.value (.tuple #[])) ((w'.setCell ⟨g,0+(j+1),none⟩ (.int .i64 dj[j]!)).setCell ⟨g,0+j,none⟩ (.int .i64 dj[j+1]!)) :=
       HW.out w' dj (HL.holds HS.out) HL.1 (j+1) j (by omega) (by omega)
      have HN:=HL.swap HS.out (i:=j+1) (j:=j) (by omega) (by omega)
      rw [Nat.zero_add,Nat.zero_add] at HN
      rw [hs,Oper.upon_value]
      go_wp2
      go_roundw
      case rel =>
       exact ⟨j,swp dj (j+1) j,rfl,by omega,by omega,HN,by show _=_;rw [← HI.out];exact (insInner_go (lB l) a (j+1) dj hja hlv).symm⟩
      case measure=>simp [intOf]
     | false =>
      rw [hlv] at QL
      go_wp2_with (go_at_fn 113;refine QL.out.mono ?_;rintro e w' ⟨rfl,HL⟩;have c2:=HL.cell HS.out (by show W.heap.size≠g;omega) C1.out)
      go_roundw
      case rel=>exact OUT.out (Or.inr hlv) _ HL
      case measure=>simp [intOf];omega
    ·go_wp2
     go_roundw
     case rel=>exact OUT.out (Or.inl (by omega)) _ HJ.out
     case measure=>simp [intOf];omega
  ·go_wp2
   go_end0
   refine ⟨rfl,HT.out _ _ ?_⟩
   unfold Sort.insertionSort
   rw [← HO.out,insOuter_stop _ _ _ _ _ hlt]
   exact HK.out
set_option maxRecDepth 100000 in
set_option maxHeartbeats 4000000 in
theorem swapRange_any {l:List Flight} {w w0 W:World} {A:Option Addr} {c g cap:Nat} {pl po:Addr} {d:Array Int} (S:Srt l w w0 A c pl po g cap) (h:SW l w0 g d W) (sf:Nat) (sb:Array Value) (hsw:SwapAt sf sb g l.length) (a b n:Nat) (hab:a+n≤b) (hb:b+n≤l.length) :
  Calls Tryz.prog 194 #[.agg #[.func (.func 113) #[] #[.pointer (some pl), .pointer (some po)], .func (.func sf) #[] sb], .int .i64 a, .int .i64 b, .int .i64 n] W fun e w'=>e = .returned (.tuple #[])∧SW l w0 g (swapR a b n d) w':=by
 have hA:=h.alloc (.cells #[.func (.func 113) #[] #[.pointer (some pl), .pointer (some po)], .func (.func sf) #[] sb] 157)
 have c0:(W.alloc (.cells #[.func (.func 113) #[] #[.pointer (some pl), .pointer (some po)], .func (.func sf) #[] sb] 157)).cell? ⟨W.heap.size,0,none⟩=some (.func (.func 113) #[] #[.pointer (some pl), .pointer (some po)]):=by simp
 have c1:(W.alloc (.cells #[.func (.func 113) #[] #[.pointer (some pl), .pointer (some po)], .func (.func sf) #[] sb] 157)).cell? ⟨W.heap.size,1,none⟩=some (.func (.func sf) #[] sb):=by simp
 have hgl:=h.lt S
 have hl:=S.hl
 have eg:=enters_less
 have HT:=Lib.hid (fun d' W' (k:SW l (W.alloc (.cells #[.func (.func 113) #[] #[.pointer (some pl), .pointer (some po)], .func (.func sf) #[] sb] 157)) g d' W')=>SW.trans S hA k)
 have HS:=Lib.hid (hA.next S)
 have h1:=hA.self S
 have HW:=Lib.hid hsw
 have D:=Lib.hid h.1
 clear hsw S h hA
 go_enter Tryz.func194,Tryz.ntmps194
 go_wp2
 obtain ⟨V,hV⟩:∃ V,V=(W.alloc (.cells #[.func (.func 113) #[] #[.pointer (some pl), .pointer (some po)], .func (.func sf) #[] sb] 157)):=⟨_,rfl⟩
 rw [← hV] at c0 c1 HT HS h1 ⊢
 clear hV
 have C0:=Lib.hid c0
 have C1:=Lib.hid c1
 clear c0 c1
 go_loopw [8] (fun vi wr=>∃ i:Nat,vi = .int .i64 i∧i≤n∧Hid (SW l V g (swapR a b i d) wr)) (fun vi _=>n-(intOf vi).toNat)
 case atStart=>exact ⟨0,rfl,Nat.zero_le _,h1⟩
 case round =>
  clear h1
  obtain ⟨i,rfl,hi,HK⟩:=hrel
  by_cases hlt:i<n
  ·have c1:=HK.out.cell HS.out (by show W.heap.size≠g;omega) C1.out
   have hs:(callFunc sf (#[.int .i64 ((a:Int)+i), .int .i64 ((b:Int)+i)]++sb)).run Tryz.prog wr = .ok (.value (.tuple #[])) ((wr.setCell ⟨g,0+(a+i),none⟩ (.int .i64 (swapR a b i d)[b+i]!)).setCell ⟨g,0+(b+i),none⟩ (.int .i64 (swapR a b i d)[a+i]!)) :=
    HW.out wr _ (HK.out.holds HS.out) HK.out.1 (a+i) (b+i) (by omega) (by omega)
   have HN:=Lib.hid (HK.out.swap HS.out (i:=a+i) (j:=b+i) (by omega) (by omega))
   have HQ:=Lib.hid hs
   clear hs
   go_wp2
   rw [HQ.out,Oper.upon_value]
   go_wp2
   go_roundw
   case rel=>exact ⟨i+1,by go_num,by omega,by have t:=HN.out;rw [Nat.zero_add,Nat.zero_add] at t;exact t⟩
   case measure=>simp [intOf];omega
  ·go_wp2
   go_end0
   obtain rfl:i=n:=by omega
   exact ⟨rfl,HT.out _ _ HK.out⟩
set_option maxRecDepth 100000 in
set_option maxHeartbeats 4000000 in
theorem rotate_any {l:List Flight} {w w0 W:World} {A:Option Addr} {c g cap:Nat} {pl po:Addr} {d:Array Int} (S:Srt l w w0 A c pl po g cap) (h:SW l w0 g d W) (sf:Nat) (sb:Array Value) (hsw:SwapAt sf sb g l.length) (a m b:Nat) (ham:a<m) (hmb:m<b) (hb:b≤l.length) :
  Calls Tryz.prog 185 #[.agg #[.func (.func 113) #[] #[.pointer (some pl), .pointer (some po)], .func (.func sf) #[] sb], .int .i64 a, .int .i64 m, .int .i64 b] W fun e w'=>e = .returned (.tuple #[])∧∃ d',SW l w0 g d' w'∧RotIn a m b d d'∧PermIn a b d d':=by
 have hA:=h.alloc (.cells #[.func (.func 113) #[] #[.pointer (some pl), .pointer (some po)], .func (.func sf) #[] sb] 157)
 have c0:(W.alloc (.cells #[.func (.func 113) #[] #[.pointer (some pl), .pointer (some po)], .func (.func sf) #[] sb] 157)).cell? ⟨W.heap.size,0,none⟩=some (.func (.func 113) #[] #[.pointer (some pl), .pointer (some po)]):=by simp
 have c1:(W.alloc (.cells #[.func (.func 113) #[] #[.pointer (some pl), .pointer (some po)], .func (.func sf) #[] sb] 157)).cell? ⟨W.heap.size,1,none⟩=some (.func (.func sf) #[] sb):=by simp
 have hgl:=h.lt S
 have hl:=S.hl
 have eg:=enters_less
 have HT:=Lib.hid (fun d' W' (k:SW l (W.alloc (.cells #[.func (.func 113) #[] #[.pointer (some pl), .pointer (some po)], .func (.func sf) #[] sb] 157)) g d' W')=>SW.trans S hA k)
 have HS:=Lib.hid (hA.next S)
 have h1:=hA.self S
 have HW:=Lib.hid hsw
 have D:=Lib.hid h.1
 clear hsw S h hA
 have QS:=Lib.hid (fun W' d' (k:SW l (W.alloc (.cells #[.func (.func 113) #[] #[.pointer (some pl), .pointer (some po)], .func (.func sf) #[] sb] 157)) g d' W')=>fun x y n hx hy=>swapRange_any HS.out k sf sb HW.out x y n hx hy)
 go_enter Tryz.func185,Tryz.ntmps185
 go_wp2
 obtain ⟨V,hV⟩:∃ V,V=(W.alloc (.cells #[.func (.func 113) #[] #[.pointer (some pl), .pointer (some po)], .func (.func sf) #[] sb] 157)):=⟨_,rfl⟩
 rw [← hV] at c0 c1 HT HS h1 QS ⊢
 clear hV
 have C0:=Lib.hid c0
 have C1:=Lib.hid c1
 clear c0 c1
 go_loopw [8,9] (fun vi vj wr=>∃ (i j:Nat) (di:Array Int),vi = .int .i64 i∧vj = .int .i64 j∧1≤i∧1≤j∧a+i≤m∧m+j≤b∧Hid (SW l V g di wr)∧Hid (∀ d',RotIn (m-i) m (m+j) di d'→RotIn a m b d d')∧Hid (PermIn a b d di)) (fun vi vj _=>(intOf vi).toNat+(intOf vj).toNat)
 case atStart=>exact ⟨m-a,b-m,d,by congr 1;omega,by congr 1;omega,by omega,by omega,by omega,by omega,h1,fun d' hd=>by rwa [show m-(m-a)=a by omega,show m+(b-m)=b by omega] at hd,permIn_refl d a b⟩
 case round =>
  clear h1
  obtain ⟨i,j,di,rfl,rfl,hi1,hj1,him,hjb,HK,HR,HP⟩:=hrel
  have cc:=HK.out.cell HS.out (by show W.heap.size≠g;omega) C0.out
  have c1:=HK.out.cell HS.out (by show W.heap.size≠g;omega) C1.out
  have hz:=HK.out.1
  have hz2:m+j≤di.size:=by omega
  have HZ:=Lib.hid hz
  clear hz
  have j3:(m:Int)-i=((m-i:Nat):Int):=by omega
  rcases Nat.lt_trichotomy i j with hlt | hlt | hlt
  ·have e1:((i:Int) != j)=true:=by simp;omega
   have e2:decide ((j:Int)<i)=false:=decide_eq_false (by omega)
   have e3:decide (j<i)=false:=decide_eq_false (by omega)
   have QE:=Lib.hid (QS.out wr di HK.out (m-i) (m+j-i) i (by omega) (by omega))
   have J3:=Lib.hid j3
   have J4:Hid ((m:Int)+j-i=((m+j-i:Nat):Int)):=by show _=_;omega
   clear j3
   go_wp2_with (go_at_call 194;rw [J3.out,J4.out];refine QE.out.mono ?_;rintro e w' ⟨rfl,HL⟩)
   go_roundw
   case rel=>exact ⟨i,j-i,_,rfl,by congr 1;omega,by omega,by omega,by omega,by omega,HL,fun d' hd=>HR.out d' (rot_right hi1 hlt (by omega) hz2 d' hd),permIn_trans _ _ _ _ _ HP.out (swapR_perm _ _ a b i di (by omega) (by omega) (by omega) (by have:=HZ.out;omega))⟩
   case measure=>simp [intOf];omega
  ·subst hlt
   have e1:((i:Int) != i)=false:=by simp
   have QE:=Lib.hid (QS.out wr di HK.out (m-i) m i (by omega) (by omega))
   have J3:=Lib.hid j3
   clear j3
   go_wp2_with (go_at_call 194;rw [J3.out];refine QE.out.mono ?_;rintro e w' ⟨rfl,HL⟩)
   go_end0
   exact ⟨rfl,_,HT.out _ _ HL,HR.out _ (rot_even (by omega) hz2),permIn_trans _ _ _ _ _ HP.out (swapR_perm _ _ a b i di (by omega) (by omega) (by omega) (by have:=HZ.out;omega))⟩
  ·have e1:((i:Int) != j)=true:=by simp;omega
   have e2:decide ((j:Int)<i)=true:=decide_eq_true (by omega)
   have e3:decide (j<i)=true:=decide_eq_true (by omega)
   have QE:=Lib.hid (QS.out wr di HK.out (m-i) m j (by omega) (by omega))
   have J3:=Lib.hid j3
   clear j3
   go_wp2_with (go_at_call 194;rw [J3.out];refine QE.out.mono ?_;rintro e w' ⟨rfl,HL⟩)
   go_roundw
   case rel=>exact ⟨i-j,j,_,by congr 1;omega,rfl,by omega,by omega,by omega,by omega,HL,fun d' hd=>HR.out d' (rot_left hj1 hlt (by omega) hz2 d' hd),permIn_trans _ _ _ _ _ HP.out (swapR_perm _ _ a b j di (by omega) (by omega) (by omega) (by have:=HZ.out;omega))⟩
   case measure=>simp [intOf];omega
theorem lB_of_tB {l:List Flight} {x y:Int} {b:Bool} (h:y≤x) (e:lB l x y=b):tB l x y=b:=by rw [tB_agree h];exact e
set_option maxRecDepth 100000 in
set_option maxHeartbeats 4000000 in
theorem merge_first {l:List Flight} {w w0 W:World} {A:Option Addr} {c g cap:Nat} {pl po:Addr} {d:Array Int} (S:Srt l w w0 A c pl po g cap) (h:SW l w0 g d W) (sf:Nat) (sb:Array Value) (hsw:SwapAt sf sb g l.length) (a b:Nat) (hab:a+1<b) (hb:b≤l.length) (hR:SortedIn (tB l) (a+1) b d) (hX:∀ q,a+1≤q→q<b→d[a]! < d[q]!) :
  Calls Tryz.prog 165 #[.agg #[.func (.func 113) #[] #[.pointer (some pl), .pointer (some po)], .func (.func sf) #[] sb], .int .i64 a, .int .i64 ((a:Int)+1), .int .i64 b] W fun e w'=>e = .returned (.tuple #[])∧∃ d',SW l w0 g d' w'∧PermIn a b d d'∧SortedIn (tB l) a b d':=by
 have hA:=h.alloc (.cells #[.func (.func 113) #[] #[.pointer (some pl), .pointer (some po)], .func (.func sf) #[] sb] 157)
 have c0:(W.alloc (.cells #[.func (.func 113) #[] #[.pointer (some pl), .pointer (some po)], .func (.func sf) #[] sb] 157)).cell? ⟨W.heap.size,0,none⟩=some (.func (.func 113) #[] #[.pointer (some pl), .pointer (some po)]):=by simp
 have c1:(W.alloc (.cells #[.func (.func 113) #[] #[.pointer (some pl), .pointer (some po)], .func (.func sf) #[] sb] 157)).cell? ⟨W.heap.size,1,none⟩=some (.func (.func sf) #[] sb):=by simp
 have hgl:=h.lt S
 have hl:=S.hl
 have eg:=enters_less
 have HT:=Lib.hid (fun d' W' (k:SW l (W.alloc (.cells #[.func (.func 113) #[] #[.pointer (some pl), .pointer (some po)], .func (.func sf) #[] sb] 157)) g d' W')=>SW.trans S hA k)
 have HS:=Lib.hid (hA.next S)
 have h1:=hA.self S
 have HW:=Lib.hid hsw
 have D:=Lib.hid h.1
 clear hsw S h hA
 have QR:=Lib.hid hR
 have QX:=Lib.hid hX
 clear hR hX
 have e0:((a:Int)+1-a == 1)=true:=by simp;omega
 go_enter Tryz.func165,Tryz.ntmps165
 go_wp2
 obtain ⟨V,hV⟩:∃ V,V=(W.alloc (.cells #[.func (.func 113) #[] #[.pointer (some pl), .pointer (some po)], .func (.func sf) #[] sb] 157)):=⟨_,rfl⟩
 rw [← hV] at c0 c1 HT HS h1 ⊢
 clear hV
 have C0:=Lib.hid c0
 have C1:=Lib.hid c1
 clear c0 c1
 go_loopw [8,9] (fun vi vj wr=>∃ i j:Nat,vi = .int .i64 i∧vj = .int .i64 j∧a+1≤i∧i≤j∧j≤b∧Hid (i=a+1∨tB l d[i-1]! d[a]! = true)∧Hid (j=b∨tB l d[j]! d[a]! = false)∧Hid (SW l V g d wr)) (fun vi vj _=>(intOf vj).toNat-(intOf vi).toNat)
 case atStart=>exact ⟨a+1,b,by go_num,rfl,by omega,by omega,by omega,Or.inl rfl,Or.inl rfl,h1⟩
 case round =>
  clear h1
  obtain ⟨i,j,rfl,rfl,hi,hij,hj,HI,HJ,HK⟩:=hrel
  have c0:=HK.out.cell HS.out (by show W.heap.size≠g;omega) C0.out
  by_cases hlt:i<j
  ·have QL:=Lib.hid (HK.out.less HS.out (i:=(i+j) / 2) (k:=a) (by omega) (by omega))
   have hx:=QX.out ((i+j) / 2) (by omega) (by omega)
   have HX:=Lib.hid hx
   have J1:Hid (((i:Int)+j) / 2=(((i+j) / 2:Nat):Int)):=by show _=_;omega
   clear hx
   cases hlv:lB l d[(i+j) / 2]! d[a]! with
   | true =>
    rw [hlv] at QL
    have HV:=Lib.hid hlv
    clear hlv
    go_wp2_with (go_at_fn 113;rw [J1.out];refine QL.out.mono ?_;rintro e w' ⟨rfl,HL⟩)
    go_roundw
    case rel=>exact ⟨(i+j) / 2+1,j,by first | rfl | go_num,rfl,by omega,by omega,hj,Or.inr (by show tB l d[(i+j) / 2+1-1]! d[a]! = true;rw [Nat.add_sub_cancel];exact lB_of_tB (by have:=HX.out;omega) HV.out),HJ,HL⟩
    case measure=>simp [intOf];omega
   | false =>
    rw [hlv] at QL
    have HV:=Lib.hid hlv
    clear hlv
    go_wp2_with (go_at_fn 113;rw [J1.out];refine QL.out.mono ?_;rintro e w' ⟨rfl,HL⟩)
    go_roundw
    case rel=>exact ⟨i,(i+j) / 2,rfl,by first | rfl | go_num,hi,by omega,by omega,HI,Or.inr (lB_of_tB (by have:=HX.out;omega) HV.out),HL⟩
    case measure=>simp [intOf];omega
  ·obtain rfl:i=j:=by omega
   obtain ⟨wo,hwo⟩:∃ wo:World,wo=wr:=⟨_,rfl⟩
   subst hwo
   go_wp2
   go_loopw [11] (fun vk wr=>∃ (k:Nat) (dk:Array Int),vk = .int .i64 k∧a≤k∧k+1≤i∧Hid (SW l V g dk wr)∧Hid (RotIn a (a+1) (k+1) d dk)∧Hid (PermIn a b d dk)) (fun vk _=>i-(intOf vk).toNat)
   case atStart=>exact ⟨a,d,rfl,by omega,by omega,HK,rot_none (Or.inr rfl) (by omega) (by omega),permIn_refl d a b⟩
   case round =>
    clear HK c0
    obtain ⟨k,dk,rfl,hk,hki,HK,HR,HP⟩:=hrel
    have c1:=HK.out.cell HS.out (by show W.heap.size≠g;omega) C1.out
    by_cases hlt2:k+1<i
    ·have hs:(callFunc sf (#[.int .i64 (k:Int), .int .i64 ((k:Int)+1)]++sb)).run Tryz.prog wr = .ok (.value (.tuple #[])) ((wr.setCell ⟨g,0+k,none⟩ (.int .i64 dk[k+1]!)).setCell ⟨g,0+(k+1),none⟩ (.int .i64 dk[k]!)) :=
      HW.out wr _ (HK.out.holds HS.out) HK.out.1 k (k+1) (by omega) (by omega)
     have HN:=Lib.hid (HK.out.swap HS.out (i:=k) (j:=k+1) (by omega) (by omega))
     have HQ:=Lib.hid hs
     clear hs
     have e5:decide ((k:Int)<(i:Int)-1)=true:=decide_eq_true (by omega)
     go_wp2
     rw [HQ.out,Oper.upon_value]
     go_wp2
     go_roundw
     case rel=>exact ⟨k+1,_,by go_num,by omega,by omega,by have t:=HN.out;rw [Nat.zero_add,Nat.zero_add] at t;exact t,rot_up hk (by have:=D.out;omega) HR.out,permIn_trans _ _ _ _ _ HP.out (swp_permIn dk a b k (k+1) (by omega) (by omega) (by omega) (by omega) (by have:=HK.out.1;omega))⟩
     case measure=>simp [intOf];omega
    ·have e5:decide ((k:Int)<(i:Int)-1)=false:=decide_eq_false (by omega)
     go_wp2
     ((try simp only [Exit.inBlock,Exit.then]);refine bodyPost_ret (results_none rfl _ _ _) rfl ?_)
     obtain rfl:i=k+1:=by omega
     exact ⟨rfl,dk,HT.out _ _ HK.out,HP.out,merge_left (tB_swo l) (by omega) hj QR.out HI.out HJ.out HR.out⟩
set_option maxRecDepth 100000 in
set_option maxHeartbeats 4000000 in
theorem merge_last {l:List Flight} {w w0 W:World} {A:Option Addr} {c g cap:Nat} {pl po:Addr} {d:Array Int} (S:Srt l w w0 A c pl po g cap) (h:SW l w0 g d W) (sf:Nat) (sb:Array Value) (hsw:SwapAt sf sb g l.length) (a m:Nat) (ham:a+1<m) (hb:m+1≤l.length) (hR:SortedIn (tB l) a m d) (hX:∀ q,a≤q→q<m→d[q]! < d[m]!) :
  Calls Tryz.prog 165 #[.agg #[.func (.func 113) #[] #[.pointer (some pl), .pointer (some po)], .func (.func sf) #[] sb], .int .i64 a, .int .i64 m, .int .i64 ((m:Int)+1)] W fun e w'=>e = .returned (.tuple #[])∧∃ d',SW l w0 g d' w'∧PermIn a (m+1) d d'∧SortedIn (tB l) a (m+1) d':=by
 have hA:=h.alloc (.cells #[.func (.func 113) #[] #[.pointer (some pl), .pointer (some po)], .func (.func sf) #[] sb] 157)
 have c0:(W.alloc (.cells #[.func (.func 113) #[] #[.pointer (some pl), .pointer (some po)], .func (.func sf) #[] sb] 157)).cell? ⟨W.heap.size,0,none⟩=some (.func (.func 113) #[] #[.pointer (some pl), .pointer (some po)]):=by simp
 have c1:(W.alloc (.cells #[.func (.func 113) #[] #[.pointer (some pl), .pointer (some po)], .func (.func sf) #[] sb] 157)).cell? ⟨W.heap.size,1,none⟩=some (.func (.func sf) #[] sb):=by simp
 have hgl:=h.lt S
 have hl:=S.hl
 have eg:=enters_less
 have HT:=Lib.hid (fun d' W' (k:SW l (W.alloc (.cells #[.func (.func 113) #[] #[.pointer (some pl), .pointer (some po)], .func (.func sf) #[] sb] 157)) g d' W')=>SW.trans S hA k)
 have HS:=Lib.hid (hA.next S)
 have h1:=hA.self S
 have HW:=Lib.hid hsw
 have D:=Lib.hid h.1
 clear hsw S h hA
 have QR:=Lib.hid hR
 have QX:=Lib.hid hX
 clear hR hX
 have e0:((m:Int)-a == 1)=false:=by simp;omega
 have e01:((m:Int)+1-m == 1)=true:=by simp;omega
 go_enter Tryz.func165,Tryz.ntmps165
 go_wp2
 obtain ⟨V,hV⟩:∃ V,V=(W.alloc (.cells #[.func (.func 113) #[] #[.pointer (some pl), .pointer (some po)], .func (.func sf) #[] sb] 157)):=⟨_,rfl⟩
 rw [← hV] at c0 c1 HT HS h1 ⊢
 clear hV
 have C0:=Lib.hid c0
 have C1:=Lib.hid c1
 clear c0 c1
 go_loopw [12,13] (fun vi vj wr=>∃ i j:Nat,vi = .int .i64 i∧vj = .int .i64 j∧a≤i∧i≤j∧j≤m∧Hid (i=a∨tB l d[m]! d[i-1]! = false)∧Hid (j=m∨tB l d[m]! d[j]! = true)∧Hid (SW l V g d wr)) (fun vi vj _=>(intOf vj).toNat-(intOf vi).toNat)
 case atStart=>exact ⟨a,m,rfl,rfl,by omega,by omega,by omega,Or.inl rfl,Or.inl rfl,h1⟩
 case round =>
  clear h1
  obtain ⟨i,j,rfl,rfl,hi,hij,hj,HI,HJ,HK⟩:=hrel
  have c0:=HK.out.cell HS.out (by show W.heap.size≠g;omega) C0.out
  by_cases hlt:i<j
  ·have QL:=Lib.hid (HK.out.less HS.out (i:=m) (k:=(i+j) / 2) (by omega) (by omega))
   have hx:=QX.out ((i+j) / 2) (by omega) (by omega)
   have HX:=Lib.hid hx
   have J1:Hid (((i:Int)+j) / 2=(((i+j) / 2:Nat):Int)):=by show _=_;omega
   clear hx
   cases hlv:lB l d[m]! d[(i+j) / 2]! with
   | true =>
    rw [hlv] at QL
    have HV:=Lib.hid hlv
    clear hlv
    go_wp2_with (go_at_fn 113;rw [J1.out];refine QL.out.mono ?_;rintro e w' ⟨rfl,HL⟩)
    go_roundw
    case rel=>exact ⟨i,(i+j) / 2,rfl,by first | rfl | go_num,hi,by omega,by omega,HI,Or.inr (lB_of_tB (by have:=HX.out;omega) HV.out),HL⟩
    case measure=>simp [intOf];omega
   | false =>
    rw [hlv] at QL
    have HV:=Lib.hid hlv
    clear hlv
    go_wp2_with (go_at_fn 113;rw [J1.out];refine QL.out.mono ?_;rintro e w' ⟨rfl,HL⟩)
    go_roundw
    case rel=>exact ⟨(i+j) / 2+1,j,by first | rfl | go_num,rfl,by omega,by omega,hj,Or.inr (by show tB l d[m]! d[(i+j) / 2+1-1]! = false;rw [Nat.add_sub_cancel];exact lB_of_tB (by have:=HX.out;omega) HV.out),HJ,HL⟩
    case measure=>simp [intOf];omega
  ·obtain rfl:i=j:=by omega
   obtain ⟨wo,hwo⟩:∃ wo:World,wo=wr:=⟨_,rfl⟩
   subst hwo
   go_wp2
   go_loopw [15] (fun vk wr=>∃ (k:Nat) (dk:Array Int),vk = .int .i64 k∧i≤k∧k≤m∧Hid (SW l V g dk wr)∧Hid (RotIn k m (m+1) d dk)∧Hid (PermIn a (m+1) d dk)) (fun vk _=>(intOf vk).toNat)
   case atStart=>exact ⟨m,d,rfl,by omega,by omega,HK,rot_none (Or.inl rfl) (by omega) (by omega),permIn_refl d a (m+1)⟩
   case round =>
    clear HK c0
    obtain ⟨k,dk,rfl,hk,hki,HK,HR,HP⟩:=hrel
    have c1:=HK.out.cell HS.out (by show W.heap.size≠g;omega) C1.out
    by_cases hlt2:i<k
    ·obtain ⟨k,rfl⟩:∃ q,k=q+1:=⟨k-1,by omega⟩
     have hs:(callFunc sf (#[.int .i64 ((k:Int)+1), .int .i64 (k:Int)]++sb)).run Tryz.prog wr = .ok (.value (.tuple #[])) ((wr.setCell ⟨g,0+(k+1),none⟩ (.int .i64 dk[k]!)).setCell ⟨g,0+k,none⟩ (.int .i64 dk[k+1]!)) :=
      HW.out wr _ (HK.out.holds HS.out) HK.out.1 (k+1) k (by omega) (by omega)
     have HN:=Lib.hid (HK.out.swap HS.out (i:=k+1) (j:=k) (by omega) (by omega))
     have HQ:=Lib.hid hs
     clear hs
     have e5:decide ((i:Int)<(k:Int)+1)=true:=decide_eq_true (by omega)
     go_wp2
     rw [HQ.out,Oper.upon_value]
     go_wp2
     go_roundw
     case rel=>exact ⟨k,_,by first | rfl | go_num,by omega,by omega,by have t:=HN.out;rw [Nat.zero_add,Nat.zero_add] at t;exact t,rot_down (by omega) (by have:=D.out;omega) HR.out,permIn_trans _ _ _ _ _ HP.out (swp_permIn dk a (m+1) (k+1) k (by omega) (by omega) (by omega) (by omega) (by have:=HK.out.1;omega))⟩
     case measure=>simp [intOf]
    ·go_wp2
     ((try simp only [Exit.inBlock,Exit.then]);refine bodyPost_ret (results_none rfl _ _ _) rfl ?_)
     obtain rfl:i=k:=by omega
     exact ⟨rfl,dk,HT.out _ _ HK.out,HP.out,merge_right (tB_swo l) hi hki QR.out HI.out HJ.out HR.out⟩
set_option maxRecDepth 100000 in
set_option maxHeartbeats 8000000 in
theorem merge_step {l:List Flight} {w w0 W:World} {A:Option Addr} {c g cap:Nat} {pl po:Addr} {d:Array Int} (S:Srt l w w0 A c pl po g cap) (h:SW l w0 g d W) (sf:Nat) (sb:Array Value) (hsw:SwapAt sf sb g l.length) (N:Nat) (ih:∀ {w0 W:World} {d:Array Int},Srt l w w0 A c pl po g cap→SW l w0 g d W→∀ (a m b:Nat),a<m→m<b→b≤l.length→b-a<N→SortedIn (tB l) a m d→SortedIn (tB l) m b d→(∀ p q,a≤p→p<m→m≤q→q<b→d[p]! < d[q]!)→Calls Tryz.prog 165 #[.agg #[.func (.func 113) #[] #[.pointer (some pl), .pointer (some po)], .func (.func sf) #[] sb], .int .i64 a, .int .i64 m, .int .i64 b] W fun e w'=>e = .returned (.tuple #[])∧∃ d',SW l w0 g d' w'∧PermIn a b d d'∧SortedIn (tB l) a b d')
  (a m b:Nat) (ham:a+1<m) (hmb:m+1<b) (hb:b≤l.length) (hN:b-a≤N) (hR0:SortedIn (tB l) a m d) (hR1:SortedIn (tB l) m b d) (hX:∀ p q,a≤p→p<m→m≤q→q<b→d[p]! < d[q]!) :
  Calls Tryz.prog 165 #[.agg #[.func (.func 113) #[] #[.pointer (some pl), .pointer (some po)], .func (.func sf) #[] sb], .int .i64 a, .int .i64 m, .int .i64 b] W fun e w'=>e = .returned (.tuple #[])∧∃ d',SW l w0 g d' w'∧PermIn a b d d'∧SortedIn (tB l) a b d':=by
 have hA:=h.alloc (.cells #[.func (.func 113) #[] #[.pointer (some pl), .pointer (some po)], .func (.func sf) #[] sb] 157)
 have c0:(W.alloc (.cells #[.func (.func 113) #[] #[.pointer (some pl), .pointer (some po)], .func (.func sf) #[] sb] 157)).cell? ⟨W.heap.size,0,none⟩=some (.func (.func 113) #[] #[.pointer (some pl), .pointer (some po)]):=by simp
 have c1:(W.alloc (.cells #[.func (.func 113) #[] #[.pointer (some pl), .pointer (some po)], .func (.func sf) #[] sb] 157)).cell? ⟨W.heap.size,1,none⟩=some (.func (.func sf) #[] sb):=by simp
 have hgl:=h.lt S
 have hl:=S.hl
 have eg:=enters_less
 have HT:=Lib.hid (fun d' W' (k:SW l (W.alloc (.cells #[.func (.func 113) #[] #[.pointer (some pl), .pointer (some po)], .func (.func sf) #[] sb] 157)) g d' W')=>SW.trans S hA k)
 have HS:=Lib.hid (hA.next S)
 have h1:=hA.self S
 have HW:=Lib.hid hsw
 have D:=Lib.hid h.1
 clear hsw S h hA
 have QR0:=Lib.hid hR0
 have QR1:=Lib.hid hR1
 have QX:=Lib.hid hX
 clear hR0 hR1 hX
 have QM:=Lib.hid (fun d W' (k:SW l (W.alloc (.cells #[.func (.func 113) #[] #[.pointer (some pl), .pointer (some po)], .func (.func sf) #[] sb] 157)) g d W')=>ih HS.out k)
 have QT:=Lib.hid (fun d W' (k:SW l (W.alloc (.cells #[.func (.func 113) #[] #[.pointer (some pl), .pointer (some po)], .func (.func sf) #[] sb] 157)) g d W')=>rotate_any HS.out k sf sb HW.out)
 clear ih
 have e0:((m:Int)-a == 1)=false:=by simp;omega
 have e01:((b:Int)-m == 1)=false:=by simp;omega
 obtain ⟨M,hM⟩:∃ M,M=(a+b) / 2:=⟨_,rfl⟩
 have J0:((a:Int)+b) / 2=(M:Int):=by omega
 have hM1:a<M:=by omega
 have hM2:M<b:=by omega
 obtain ⟨lo,hlo⟩:∃ lo,lo=if (a+b) / 2<m then (a+b) / 2+m-b else a:=⟨_,rfl⟩
 obtain ⟨hi,hhi⟩:∃ hi,hi=if (a+b) / 2<m then (a+b) / 2 else m:=⟨_,rfl⟩
 have hb1:lo≤hi:=by rw [hlo,hhi];split <;> omega
 have hb2:hi≤m:=by rw [hhi];split <;> omega
 have hb3:a≤lo:=by rw [hlo];split <;> omega
 have hb4:M+m≤b+lo:=by rw [hlo];split <;> omega
 have hb5:hi≤M:=by rw [hhi];split <;> omega
 have HM:=Lib.hid hM
 have HLO:=Lib.hid hlo
 have HHI:=Lib.hid hhi
 clear hM hlo hhi
 go_enter Tryz.func165,Tryz.ntmps165
 go_upto_if 106 with (fail)
 obtain ⟨V,hV⟩:∃ V,V=(W.alloc (.cells #[.func (.func 113) #[] #[.pointer (some pl), .pointer (some po)], .func (.func sf) #[] sb] 157)):=⟨_,rfl⟩
 rw [← hV] at c0 c1 HT HS h1 QM QT ⊢
 clear hV
 have C0:=Lib.hid c0
 have C1:=Lib.hid c1
 clear c0 c1
 go_cut [16,17,18,19] (fun q n s r wx=>q = .int .i64 (M:Nat)∧n = .int .i64 ((M:Int)+m)∧s = .int .i64 (lo:Nat)∧r = .int .i64 (hi:Nat)∧wx=V)
 case first =>
  by_cases hm:M<m
  ·have e2:decide ((M:Int)<m)=true:=decide_eq_true (by omega)
   have e3:decide (M<m)=true:=decide_eq_true hm
   have hl1:lo=M+m-b:=by rw [HLO.out,HM.out,if_pos (by have:=HM.out;omega)]
   have hl2:hi=M:=by rw [HHI.out,HM.out,if_pos (by have:=HM.out;omega)]
   have H1:=Lib.hid hl1
   have H2:=Lib.hid hl2
   clear hl1 hl2
   go_wp2
   go_meet
   exact ⟨rfl,rfl,by congr 1;have:=H1.out;omega,by rw [H2.out],rfl⟩
  ·have e2:decide ((M:Int)<m)=false:=decide_eq_false (by omega)
   have e3:decide (M<m)=false:=decide_eq_false hm
   have hl1:lo=a:=by rw [HLO.out,if_neg (by have:=HM.out;omega)]
   have hl2:hi=m:=by rw [HHI.out,if_neg (by have:=HM.out;omega)]
   have H1:=Lib.hid hl1
   have H2:=Lib.hid hl2
   clear hl1 hl2
   go_wp2
   go_meet
   exact ⟨rfl,rfl,by rw [H1.out],by rw [H2.out],rfl⟩
 case rest =>
  obtain ⟨rfl,rfl,rfl,rfl,rfl⟩:=hcut
  obtain ⟨Vb,hVb⟩:∃ Vb:World,Vb=wc:=⟨_,rfl⟩
  subst hVb
  go_wp2
  go_loopw [18,19] (fun vs vr wr=>∃ s r:Nat,vs = .int .i64 s∧vr = .int .i64 r∧lo≤s∧s≤r∧r≤hi∧Hid (s=lo∨tB l d[M+m-1-(s-1)]! d[s-1]! = false)∧Hid (r=hi∨tB l d[M+m-1-r]! d[r]! = true)∧Hid (SW l Vb g d wr)) (fun vs vr _=>(intOf vr).toNat-(intOf vs).toNat)
  case atStart=>exact ⟨lo,hi,rfl,rfl,by omega,by omega,by omega,Or.inl rfl,Or.inl rfl,h1⟩
  case round =>
   clear h1
   obtain ⟨s,r,rfl,rfl,hs1,hs2,hs3,HI,HJ,HK⟩:=hrel
   have c0:=HK.out.cell HS.out (by show W.heap.size≠g;omega) C0.out
   by_cases hlt:s<r
   ·obtain ⟨x,hx⟩:∃ x,x=(s+r) / 2:=⟨_,rfl⟩
    have J1:((s:Int)+r) / 2=(x:Int):=by omega
    have hx1:s≤x:=by omega
    have hx2:x<r:=by omega
    have HX:=Lib.hid hx
    clear hx
    have J2:Hid ((M:Int)+m-1-x=((M+m-1-x:Nat):Int)):=by show _=_;omega
    have QL:=Lib.hid (HK.out.less HS.out (i:=M+m-1-x) (k:=x) (by omega) (by omega))
    have QY:=Lib.hid (QX.out x (M+m-1-x) (by omega) (by omega) (by omega) (by omega))
    cases hlv:lB l d[M+m-1-x]! d[x]! with
    | true =>
     rw [hlv] at QL
     have HV:=Lib.hid hlv
     clear hlv
     go_wp2_with (go_at_fn 113;rw [J2.out];refine QL.out.mono ?_;rintro e w' ⟨rfl,HL⟩)
     go_roundw
     case rel=>exact ⟨s,x,rfl,rfl,hs1,hx1,by omega,HI,Or.inr (lB_of_tB (by have:=QY.out;omega) HV.out),HL⟩
     case measure=>simp [intOf];omega
    | false =>
     rw [hlv] at QL
     have HV:=Lib.hid hlv
     clear hlv
     go_wp2_with (go_at_fn 113;rw [J2.out];refine QL.out.mono ?_;rintro e w' ⟨rfl,HL⟩)
     go_roundw
     case rel=>exact ⟨x+1,r,by first | rfl | go_num,rfl,by omega,by omega,hs3,Or.inr (by show tB l d[M+m-1-(x+1-1)]! d[x+1-1]! = false;rw [Nat.add_sub_cancel];exact lB_of_tB (by have:=QY.out;omega) HV.out),HJ,HL⟩
     case measure=>simp [intOf];omega
   ·obtain rfl:s=r:=by omega
    have hse:=sym_ends (tB_swo l) (d:=d) (s:=s) (by omega:a<m) (by omega:m<b) HLO.out HHI.out hs1 hs3 QR0.out QR1.out (by rw [← HM.out];exact HI.out) (by rw [← HM.out];exact HJ.out)
    rw [← HM.out] at hse
    obtain ⟨⟨z1,z2,z3,z4⟩,zA,zC⟩:=hse
    have ZA:=Lib.hid zA
    have ZC:=Lib.hid zC
    clear zA zC
    obtain ⟨en,hen⟩:∃ en,en=M+m-s:=⟨_,rfl⟩
    rw [← hen] at ZA ZC z3 z4
    have j7:(M:Int)+m-s=(en:Int):=by omega
    have hmid:s+(en-m)=M:=by omega
    have HE:=Lib.hid hen
    clear hen
    have hds:d.size=l.length:=HK.out.1
    have HD:=Lib.hid hds
    clear hds
    obtain ⟨wo,hwo⟩:∃ wo:World,wo=wr:=⟨_,rfl⟩
    subst hwo
    go_upto_region 40 with (fail)
    go_cut [22,145] (fun v t wx=>v = .int .i64 (en:Nat)∧t = .bool (decide (s<m∧m<en))∧wx=wo)
    case first =>
     by_cases q1:s<m
     ·have r1:decide ((s:Int)<m)=true:=decide_eq_true (by omega)
      have r1':decide (s<m)=true:=decide_eq_true q1
      by_cases q2:m<en
      ·have r2:decide ((m:Int)<en)=true:=decide_eq_true (by omega)
       have r2':decide (m<en)=true:=decide_eq_true q2
       go_wp2
       go_meet
       exact ⟨rfl,by rw [decide_eq_true (⟨q1,q2⟩:s<m∧m<en)],rfl⟩
      ·have r2:decide ((m:Int)<en)=false:=decide_eq_false (by omega)
       have r2':decide (m<en)=false:=decide_eq_false q2
       go_wp2
       go_meet
       exact ⟨rfl,by rw [decide_eq_false (fun h=>q2 h.2:¬ (s<m∧m<en))],rfl⟩
     ·have r1:decide ((s:Int)<m)=false:=decide_eq_false (by omega)
      have r1':decide (s<m)=false:=decide_eq_false q1
      go_wp2
      go_meet
      exact ⟨rfl,by rw [decide_eq_false (fun h=>q1 h.1:¬ (s<m∧m<en))],rfl⟩
    case rest =>
     obtain ⟨rfl,rfl,rfl⟩:=hcut
     obtain ⟨W1,hW1⟩:∃ W1:World,W1=wc:=⟨_,rfl⟩
     subst hW1
     go_upto_if 145 with (fail)
     have b0:=HK.out.cell HS.out (by show W.heap.size≠g;omega) C0.out
     have b1:=HK.out.cell HS.out (by show W.heap.size≠g;omega) C1.out
     go_cut [22] (fun v wx=>v = .int .i64 (en:Nat)∧∃ d1,Hid (SW l Vb g d1 wx)∧Hid (RotIn s m en d d1)∧Hid (PermIn a b d d1))
     case first =>
      by_cases q:s<m∧m<en
      ·have r:decide (s<m∧m<en)=true:=decide_eq_true q
       have QE:=Lib.hid (QT.out _ _ HK.out s m en q.1 q.2 (by omega))
       go_wp2_with (go_at_call 185;refine QE.out.mono ?_;rintro e w' ⟨rfl,d1,HL,hr,hp⟩)
       go_meet
       exact ⟨rfl,d1,HL,hr,permIn_mono _ _ s en a b (by omega) (by omega) (by have:=HD.out;omega) hp⟩
      ·have r:decide (s<m∧m<en)=false:=decide_eq_false q
       go_wp2
       go_meet
       exact ⟨rfl,d,HK,rot_none (by omega) (by omega) (by omega),permIn_refl d a b⟩
     case rest =>
      clear b0 b1 c0
      obtain ⟨rfl,d1,HK1,HR1,HP1⟩:=hcut
      clear HK
      obtain ⟨W2,hW2⟩:∃ W2:World,W2=wc:=⟨_,rfl⟩
      subst hW2
      have zX:=rot_cross HR1.out z1 z2 z3 z4 QR0.out QR1.out ZA.out ZC.out
      rw [hmid] at zX
      have ZX:=Lib.hid zX
      clear zX
      have hd1:d1.size=l.length:=HK1.out.1
      have HD1:=Lib.hid hd1
      clear hd1
      have b0:=HK1.out.cell HS.out (by show W.heap.size≠g;omega) C0.out
      have b1:=HK1.out.cell HS.out (by show W.heap.size≠g;omega) C1.out
      go_upto_region 42 with (fail)
      go_cut [22,158] (fun v t wx=>v = .int .i64 (en:Nat)∧t = .bool (decide (a<s∧s<M))∧wx=W2)
      case first =>
       by_cases q1:a<s
       ·have r1:decide ((a:Int)<s)=true:=decide_eq_true (by omega)
        have r1':decide (a<s)=true:=decide_eq_true q1
        by_cases q2:s<M
        ·have r2:decide ((s:Int)<M)=true:=decide_eq_true (by omega)
         have r2':decide (s<M)=true:=decide_eq_true q2
         go_wp2
         go_meet
         exact ⟨rfl,by rw [decide_eq_true (⟨q1,q2⟩:a<s∧s<M)],rfl⟩
        ·have r2:decide ((s:Int)<M)=false:=decide_eq_false (by omega)
         have r2':decide (s<M)=false:=decide_eq_false q2
         go_wp2
         go_meet
         exact ⟨rfl,by rw [decide_eq_false (fun h=>q2 h.2:¬ (a<s∧s<M))],rfl⟩
       ·have r1:decide ((a:Int)<s)=false:=decide_eq_false (by omega)
        have r1':decide (a<s)=false:=decide_eq_false q1
        go_wp2
        go_meet
        exact ⟨rfl,by rw [decide_eq_false (fun h=>q1 h.1:¬ (a<s∧s<M))],rfl⟩
      case rest =>
       obtain ⟨rfl,rfl,rfl⟩:=hcut
       obtain ⟨W3,hW3⟩:∃ W3:World,W3=wc:=⟨_,rfl⟩
       subst hW3
       go_upto_if 158 with (fail)
       go_cut [22] (fun v wx=>v = .int .i64 (en:Nat)∧∃ d2,Hid (SW l Vb g d2 wx)∧Hid (PermIn a M d1 d2)∧Hid (SortedIn (tB l) a M d2))
       case first =>
        by_cases q:a<s∧s<M
        ·have r:decide (a<s∧s<M)=true:=decide_eq_true q
         have QE:=Lib.hid (QM.out _ _ HK1.out a s M q.1 q.2 (by omega) (by omega)
          (sorted_congr (fun i j h1 h2 h3=>QR0.out i j h1 h2 (by omega)) (fun k h1 h2=>rot_out HR1.out z2 z3 (.inl h2)))
          (by have t:=sorted_shift (lt:=tB l) 0 (a:=m) (b:=en) (d:=d) (d':=d1) (a':=s) (fun i j h1 h2 h3=>QR1.out i j h1 h2 (by omega)) (fun k h1 h2=>rot_in1 HR1.out h1 h2);rwa [hmid] at t)
          (fun p x h1 h2 h3 h4=>by rw [rot_out HR1.out (k:=p) z2 z3 (.inl h2),rot_in1 HR1.out (k:=x) h3 (by omega)];exact QX.out _ _ h1 (by omega) (by omega) (by omega)))
         go_wp2_with (go_at_call 165;refine QE.out.mono ?_;rintro e w' ⟨rfl,d2,HL,hp,hs⟩)
         go_meet
         exact ⟨rfl,d2,HL,hp,hs⟩
        ·have r:decide (a<s∧s<M)=false:=decide_eq_false q
         go_wp2
         go_meet
         refine ⟨rfl,d1,HK1,permIn_refl d1 a M,?_⟩
         by_cases qa:a<s
         ·obtain rfl:s=M:=by omega
          exact sorted_congr (fun i j h1 h2 h3=>QR0.out i j h1 h2 (by omega)) (fun k h1 h2=>rot_out HR1.out z2 z3 (.inl h2))
         ·obtain rfl:a=s:=by omega
          have t:=sorted_shift (lt:=tB l) 0 (a:=m) (b:=en) (d:=d) (d':=d1) (a':=a) (fun i j h1 h2 h3=>QR1.out i j h1 h2 (by omega)) (fun k h1 h2=>rot_in1 HR1.out h1 h2)
          rwa [hmid] at t
       case rest =>
        clear b0 b1
        obtain ⟨rfl,d2,HK2,HP2,HS2⟩:=hcut
        clear HK1
        obtain ⟨W4,hW4⟩:∃ W4:World,W4=wc:=⟨_,rfl⟩
        subst hW4
        have b0:=HK2.out.cell HS.out (by show W.heap.size≠g;omega) C0.out
        have b1:=HK2.out.cell HS.out (by show W.heap.size≠g;omega) C1.out
        have hE:Hid (∀ k,M≤k→d2[k]! = d1[k]!):=fun k h=>HP2.out.2.1 k (.inr h)
        go_upto_region 44 with (fail)
        go_cut [22,171] (fun v t wx=>v = .int .i64 (en:Nat)∧t = .bool (decide (M<en∧en<b))∧wx=W4)
        case first =>
         by_cases q1:M<en
         ·have r1:decide ((M:Int)<en)=true:=decide_eq_true (by omega)
          have r1':decide (M<en)=true:=decide_eq_true q1
          by_cases q2:en<b
          ·have r2:decide ((en:Int)<b)=true:=decide_eq_true (by omega)
           have r2':decide (en<b)=true:=decide_eq_true q2
           go_wp2
           go_meet
           exact ⟨rfl,by rw [decide_eq_true (⟨q1,q2⟩:M<en∧en<b)],rfl⟩
          ·have r2:decide ((en:Int)<b)=false:=decide_eq_false (by omega)
           have r2':decide (en<b)=false:=decide_eq_false q2
           go_wp2
           go_meet
           exact ⟨rfl,by rw [decide_eq_false (fun h=>q2 h.2:¬ (M<en∧en<b))],rfl⟩
         ·have r1:decide ((M:Int)<en)=false:=decide_eq_false (by omega)
          have r1':decide (M<en)=false:=decide_eq_false q1
          go_wp2
          go_meet
          exact ⟨rfl,by rw [decide_eq_false (fun h=>q1 h.1:¬ (M<en∧en<b))],rfl⟩
        case rest =>
         obtain ⟨rfl,rfl,rfl⟩:=hcut
         obtain ⟨W5,hW5⟩:∃ W5:World,W5=wc:=⟨_,rfl⟩
         subst hW5
         have hsB:∀ i j,M≤i→i<j→j<en→tB l d2[j]! d2[i]! = false:=fun i j h1 h2 h3=>by
          rw [hE.out i h1,hE.out j (by omega),rot_in2 HR1.out (k:=i) (by omega) (by omega),rot_in2 HR1.out (k:=j) (by omega) h3]
          exact QR0.out _ _ (by omega) (by omega) (by omega)
         have hsD:∀ i j,en≤i→i<j→j<b→tB l d2[j]! d2[i]! = false:=fun i j h1 h2 h3=>by
          rw [hE.out i (by omega),hE.out j (by omega),rot_out HR1.out (k:=i) z2 z3 (.inr h1),rot_out HR1.out (k:=j) z2 z3 (.inr (by omega))]
          exact QR1.out _ _ (by omega) h2 h3
         by_cases q:M<en∧en<b
         ·have r:decide (M<en∧en<b)=true:=decide_eq_true q
          have QE:=Lib.hid (QM.out _ _ HK2.out M en b q.1 q.2 hb (by omega) hsB hsD (fun p x h1 h2 h3 h4=>by
           rw [hE.out p h1,hE.out x (by omega),rot_in2 HR1.out (k:=p) (by omega) h2,rot_out HR1.out (k:=x) z2 z3 (.inr h3)]
           exact QX.out _ _ (by omega) (by omega) (by omega) h4))
          clear hsB hsD
          go_wp2_with (go_at_call 165;refine QE.out.mono ?_;rintro e w' ⟨rfl,d3,HL,hp,hs⟩)
          go_end0
          have t:=halves (by have:=HD1.out;omega) (by omega) (by omega) ZX.out HP2.out HS2.out hp hs
          exact ⟨rfl,d3,HT.out _ _ HL,permIn_trans _ _ _ _ _ HP1.out t.1,t.2⟩
         ·have r:decide (M<en∧en<b)=false:=decide_eq_false q
          have hss:SortedIn (tB l) M b d2:=by
           by_cases qa:M<en
           ·obtain rfl:en=b:=by omega
            exact hsB
           ·obtain rfl:M=en:=by omega
            exact hsD
          have HSS:=Lib.hid hss
          clear hsB hsD hss
          go_wp2
          go_end0
          have t:=halves (by have:=HD1.out;omega) (by omega) (by omega) ZX.out HP2.out HS2.out (permIn_refl d2 M b) HSS.out
          exact ⟨rfl,d2,HT.out _ _ HK2.out,permIn_trans _ _ _ _ _ HP1.out t.1,t.2⟩
theorem merge_any {l:List Flight} {w:World} {A:Option Addr} {c g cap:Nat} {pl po:Addr} (sf:Nat) (sb:Array Value) (hsw:SwapAt sf sb g l.length):∀ (N:Nat) {w0 W:World} {d:Array Int},Srt l w w0 A c pl po g cap→SW l w0 g d W→∀ (a m b:Nat),a<m→m<b→b≤l.length→b-a<N →
  SortedIn (tB l) a m d→SortedIn (tB l) m b d→(∀ p q,a≤p→p<m→m≤q→q<b→d[p]! < d[q]!) →
  Calls Tryz.prog 165 #[.agg #[.func (.func 113) #[] #[.pointer (some pl), .pointer (some po)], .func (.func sf) #[] sb], .int .i64 a, .int .i64 m, .int .i64 b] W fun e w'=>e = .returned (.tuple #[])∧∃ d',SW l w0 g d' w'∧PermIn a b d d'∧SortedIn (tB l) a b d'
 | 0,_,_,_,_,_,_,_,_,_,_,_,h,_,_,_=>by omega
 | N+1,w0,W,d,S,h,a,m,b,ham,hmb,hb,hN,h0,h1,hX=>by
  by_cases e1:m=a+1
  ·subst e1
   exact merge_first S h sf sb hsw a b hmb hb h1 (fun q hq hqb=>hX a q (Nat.le_refl _) (by omega) hq hqb)
  ·by_cases e2:b=m+1
   ·subst e2
    exact merge_last S h sf sb hsw a m (by omega) hb h0 (fun q hq hqm=>hX q m hq hqm (Nat.le_refl _) (by omega))
   ·exact merge_step S h sf sb hsw N (fun S' h' a m b x1 x2 x3 x4 x5 x6 x7=>merge_any sf sb hsw N S' h' a m b x1 x2 x3 x4 x5 x6 x7) a m b (by omega) (by omega) hb (by omega) h0 h1 hX
set_option maxRecDepth 100000 in
set_option maxHeartbeats 8000000 in
theorem stable_any {l:List Flight} {w w0 W:World} {A:Option Addr} {c g cap:Nat} {pl po:Addr} (S:Srt l w w0 A c pl po g cap) (h:SW l w0 g (upTo l.length).toArray W) (sf:Nat) (sb:Array Value) (hsw:SwapAt sf sb g l.length) :
  Calls Tryz.prog 137 #[.agg #[.func (.func 113) #[] #[.pointer (some pl), .pointer (some po)], .func (.func sf) #[] sb], .int .i64 l.length] W fun e w'=>e = .returned (.tuple #[])∧∃ d',SW l w0 g d' w'∧d'.toList=ordTo l l.length:=by
 have hA:=h.alloc (.cells #[.func (.func 113) #[] #[.pointer (some pl), .pointer (some po)], .func (.func sf) #[] sb] 157)
 have c0:(W.alloc (.cells #[.func (.func 113) #[] #[.pointer (some pl), .pointer (some po)], .func (.func sf) #[] sb] 157)).cell? ⟨W.heap.size,0,none⟩=some (.func (.func 113) #[] #[.pointer (some pl), .pointer (some po)]):=by simp
 have c1:(W.alloc (.cells #[.func (.func 113) #[] #[.pointer (some pl), .pointer (some po)], .func (.func sf) #[] sb] 157)).cell? ⟨W.heap.size,1,none⟩=some (.func (.func sf) #[] sb):=by simp
 have hgl:=h.lt S
 have hl:=S.hl
 have eg:=enters_less
 have HT:=Lib.hid (fun d' W' (k:SW l (W.alloc (.cells #[.func (.func 113) #[] #[.pointer (some pl), .pointer (some po)], .func (.func sf) #[] sb] 157)) g d' W')=>SW.trans S hA k)
 have HS:=Lib.hid (hA.next S)
 have h1:=hA.self S
 have HW:=Lib.hid hsw
 have D:=Lib.hid h.1
 clear hsw S h hA
 have QM:=Lib.hid (fun d W' (k:SW l (W.alloc (.cells #[.func (.func 113) #[] #[.pointer (some pl), .pointer (some po)], .func (.func sf) #[] sb] 157)) g d W') (a m b:Nat) (x1:a<m) (x2:m<b) (x3:b≤l.length)=>merge_any sf sb HW.out (b-a+1) HS.out k a m b x1 x2 x3 (by omega))
 have QI:=Lib.hid (fun d W' (k:SW l (W.alloc (.cells #[.func (.func 113) #[] #[.pointer (some pl), .pointer (some po)], .func (.func sf) #[] sb] 157)) g d W')=>insertion_any HS.out k sf sb HW.out)
 go_enter Tryz.func137,Tryz.ntmps137
 go_wp2
 obtain ⟨V,hV⟩:∃ V,V=(W.alloc (.cells #[.func (.func 113) #[] #[.pointer (some pl), .pointer (some po)], .func (.func sf) #[] sb] 157)):=⟨_,rfl⟩
 rw [← hV] at c0 c1 HT HS h1 QM QI ⊢
 clear hV
 have C0:=Lib.hid c0
 have C1:=Lib.hid c1
 clear c0 c1
 obtain ⟨n,hn⟩:∃ n,n=l.length:=⟨_,rfl⟩
 rw [← hn] at hl h1 QM QI D ⊢
 have hup:Hid (∀ k,k<n→(upTo n).toArray[k]! = (k:Int)):=fun k hk=>upTo_get hk
 have HN:=Lib.hid hn
 go_loopw [5,6] (fun va vb wr=>∃ (a:Nat) (dk:Array Int),va = .int .i64 a∧vb = .int .i64 ((a:Int)+20)∧a≤n∧Hid (SW l V g dk wr)∧Hid (∃ T,a=T*20∧DB l 20 (T*20) dk)∧Hid (∀ k,a≤k→k<n→dk[k]! = (k:Int))∧Hid (PermIn 0 n (upTo n).toArray dk)) (fun va _ _=>n-(intOf va).toNat)
 case atStart=>exact ⟨0,_,rfl,rfl,by omega,h1,⟨0,rfl,DB_zero l 20 (by omega) _⟩,fun k _ hk=>hup.out k hk,permIn_refl _ _ _⟩
 case round =>
  clear h1
  obtain ⟨a,dk,rfl,rfl,ha,HK,HB,HU,HP⟩:=hrel
  have hz:dk.size=n:=HK.out.1.trans HN.out.symm
  have HZ:=Lib.hid hz
  have c0:=HK.out.cell HS.out (by show W.heap.size≠g;omega) C0.out
  have c1:=HK.out.cell HS.out (by show W.heap.size≠g;omega) C1.out
  clear hz hn
  by_cases hlt:a+20≤n
  ·have e1:decide ((a:Int)+20≤n)=true:=decide_eq_true (by omega)
   have QE:=Lib.hid (QI.out dk wr HK.out a (a+20) (by omega) hlt)
   have QB:=Lib.hid (block_sorted (l:=l) HZ.out (by omega:a≤a+20) hlt HU.out)
   obtain ⟨dn,hdn⟩:∃ dn,dn=Sort.insertionSort (lB l) dk a (a+20):=⟨_,rfl⟩
   rw [← hdn] at QE QB
   clear hdn
   go_wp2_with (go_at_call 164;refine QE.out.mono ?_;rintro e w' ⟨rfl,HL⟩)
   go_roundw
   case rel =>
    refine ⟨a+20,dn,by go_num,by go_num,hlt,HL,?_,fun k hk hkn => ?_,permIn_trans _ _ _ _ _ HP.out (permIn_mono _ _ a (a+20) 0 n (Nat.zero_le _) hlt (by have:=HZ.out;omega) QB.out.1)⟩
    ·obtain ⟨T,rfl,hD⟩:=HB.out
     exact ⟨T+1,by omega,DB_next (by omega) hD (fun k hk=>QB.out.1.2.1 k (.inl hk)) QB.out.2.1 QB.out.2.2⟩
    ·rw [QB.out.1.2.1 k (.inr hk)];exact HU.out k (by omega) hkn
   case measure=>simp [intOf];omega
  ·have e1:decide ((a:Int)+20≤n)=false:=decide_eq_false (by omega)
   have QE:=Lib.hid (QI.out dk wr HK.out a n (by omega) (Nat.le_refl _))
   have QB:=Lib.hid (block_sorted (l:=l) HZ.out ha (Nat.le_refl n) HU.out)
   obtain ⟨dn,hdn⟩:∃ dn,dn=Sort.insertionSort (lB l) dk a n:=⟨_,rfl⟩
   rw [← hdn] at QE QB
   clear hdn
   have hsb:SB l 20 0 n dn:=by
    obtain ⟨T,rfl,hD⟩:=HB.out
    refine SB_of_DB (by omega) (T:=T) (fun t ht => ?_) (by omega) QB.out.2.1 (fun k h1 h2=>by have:=QB.out.2.2 k h1 h2;omega)
    have:=hD t ht
    exact ⟨sorted_congr this.1 (fun k _ hk=>QB.out.1.2.1 k (.inl (by omega))),fun k h1 h2=>by rw [QB.out.1.2.1 k (.inl (by omega))];exact this.2 k h1 h2⟩
   have HSB:=Lib.hid hsb
   have HPN:=Lib.hid (permIn_trans _ _ _ _ _ HP.out (permIn_mono _ _ a n 0 n (Nat.zero_le _) (Nat.le_refl _) (by have:=HZ.out;omega) QB.out.1))
   clear hsb
   go_wp2_with (go_at_call 164;refine QE.out.mono ?_;rintro e w' ⟨rfl,HL⟩)
   have HL1:=Lib.hid HL
   clear HL c0 c1 HK HB HU HP HZ QE QB hlt e1 ha
   go_loopw [4] (fun vs wr=>∃ (bs:Nat) (dk:Array Int),vs = .int .i64 bs∧20≤bs∧bs≤2*n+20∧Hid (SW l V g dk wr)∧Hid (SB l bs 0 n dk)∧Hid (PermIn 0 n (upTo n).toArray dk)) (fun vs _=>n-(intOf vs).toNat)
   case atStart=>exact ⟨20,dn,rfl,Nat.le_refl _,by omega,HL1,HSB,HPN⟩
   case round =>
    clear HL1 HSB HPN
    obtain ⟨bs,dk,rfl,hbs,hbs2,HK,HB,HP⟩:=hrel
    by_cases hlt:bs<n
    ·obtain ⟨wo,hwo⟩:∃ wo:World,wo=wr:=⟨_,rfl⟩
     subst hwo
     go_wp2
     go_loopw [5,6] (fun va vb wr=>∃ (a:Nat) (dj:Array Int),va = .int .i64 a∧vb = .int .i64 ((a:Int)+2*bs)∧a≤n∧Hid (SW l V g dj wr)∧Hid (∃ T,a=T*(2*bs)∧DB l (2*bs) (T*(2*bs)) dj)∧Hid (SB l bs a n dj)∧Hid (PermIn 0 n (upTo n).toArray dj)) (fun va _ _=>n-(intOf va).toNat)
     case atStart=>exact ⟨0,dk,rfl,by simp,by omega,HK,⟨0,(Nat.zero_mul _).symm,by rw [Nat.zero_mul];exact DB_zero l _ (by omega) _⟩,HB,HP⟩
     case round =>
      clear HK HB HP
      obtain ⟨a,dj,rfl,rfl,ha,HK,HD,HB,HP⟩:=hrel
      have hz:dj.size=n:=HK.out.1.trans HN.out.symm
      have HZ:=Lib.hid hz
      clear hz
      have c0:=HK.out.cell HS.out (by show W.heap.size≠g;omega) C0.out
      have c1:=HK.out.cell HS.out (by show W.heap.size≠g;omega) C1.out
      have B0:=Lib.hid (SB_0 HB.out)
      have B1:=Lib.hid (SB_1 HB.out)
      by_cases hl2:a+2*bs≤n
      ·have e1:decide ((a:Int)+2*bs≤n)=true:=decide_eq_true (by omega)
       have QE:=Lib.hid (QM.out dj wr HK.out a (a+bs) (a+2*bs) (by omega) (by omega) hl2
        (fun i j h1 h2 h3=>B0.out.1 i j h1 h2 (by omega)) (fun i j h1 h2 h3=>B1.out.1 i j h1 h2 (by omega)) (fun p q h1 h2 h3 h4=>by have:=B0.out.2 p h1 (by omega);have:=B1.out.2 q h3 (by omega);omega))
       go_wp2_with (go_at_call 165;refine QE.out.mono ?_;rintro e w' ⟨rfl,dn2,HL,hp,hs⟩)
       go_roundw
       case rel =>
        have hzz:=HZ.out
        refine ⟨a+2*bs,dn2,by go_num,by first | (simp;done) | (simp;omega) | (congr 1;omega),hl2,HL,?_,?_,permIn_trans _ _ _ _ _ HP.out (permIn_mono _ _ a (a+2*bs) 0 n (Nat.zero_le _) hl2 (by omega) hp)⟩
        ·obtain ⟨T,hT,hD⟩:=HD.out
         refine ⟨T+1,by rw [Nat.succ_mul T (2*bs),← hT],DB_next (by omega) hD (fun k hk=>hp.2.1 k (.inl (by omega))) (by rw [← hT];exact hs) ?_⟩
         rw [← hT]
         exact members (n:=n) (by omega) hp (fun k h1 h2=>by
          by_cases hk:k<a+bs
          ·have:=B0.out.2 k h1 (by omega);omega
          ·have:=B1.out.2 k (by omega) (by omega);omega)
        ·have:=SB_two (d':=dn2) HB.out (fun k hk=>hp.2.1 k (.inr (by omega)))
         show SB l bs (a+2*bs) n dn2
         rwa [show a+2*bs=a+bs+bs by omega]
       case measure=>simp [intOf];omega
      ·have e1:decide ((a:Int)+2*bs≤n)=false:=decide_eq_false (by omega)
       by_cases hl3:a+bs<n
       ·have e2:decide ((a:Int)+bs<n)=true:=decide_eq_true (by omega)
        have QE:=Lib.hid (QM.out dj wr HK.out a (a+bs) n (by omega) hl3 (Nat.le_refl _)
         (fun i j h1 h2 h3=>B0.out.1 i j h1 h2 (by omega)) (fun i j h1 h2 h3=>B1.out.1 i j h1 h2 (by omega)) (fun p q h1 h2 h3 h4=>by have:=B0.out.2 p h1 (by omega);have:=B1.out.2 q h3 (by omega);omega))
        go_wp2_with (go_at_call 165;refine QE.out.mono ?_;rintro e w' ⟨rfl,dn2,HL,hp,hs⟩)
        go_roundw
        case rel =>
         have hzz:=HZ.out
         refine ⟨2*bs,dn2,by congr 1;omega,by omega,by omega,HL,?_,permIn_trans _ _ _ _ _ HP.out (permIn_mono _ _ a n 0 n (Nat.zero_le _) (Nat.le_refl _) (by omega) hp)⟩
         obtain ⟨T,hT,hD⟩:=HD.out
         refine SB_of_DB (by omega) (T:=T) (fun t ht => ?_) (by omega) (by rw [← hT];exact hs) ?_
         ·have:=hD t ht
          exact ⟨sorted_congr this.1 (fun k _ hk=>hp.2.1 k (.inl (by omega))),fun k h1 h2=>by rw [hp.2.1 k (.inl (by omega))];exact this.2 k h1 h2⟩
         ·rw [← hT]
          exact members (n:=n) (by omega) hp (fun k h1 h2=>by
           by_cases hk:k<a+bs
           ·have:=B0.out.2 k h1 (by omega);omega
           ·have:=B1.out.2 k (by omega) (by omega);omega)
        case measure=>simp [intOf];omega
       ·have e2:decide ((a:Int)+bs<n)=false:=decide_eq_false (by omega)
        go_wp2
        go_roundw
        case rel =>
         refine ⟨2*bs,dj,by congr 1;omega,by omega,by omega,HK,?_,HP⟩
         obtain ⟨T,hT,hD⟩:=HD.out
         refine SB_of_DB (by omega) (T:=T) hD (by omega) (by rw [← hT];exact fun i j h1 h2 h3=>B0.out.1 i j h1 h2 (by omega)) (by rw [← hT];exact fun k h1 h2=>by have:=B0.out.2 k h1 (by omega);omega)
        case measure=>simp [intOf];omega
    ·go_wp2
     go_end0
     refine ⟨rfl,dk,HT.out _ _ HK.out,?_⟩
     have t:=order_of_sorted HP.out (SB_whole HB.out (by omega))
     rwa [HN.out] at t
end Go.Proofs.YthcpbojmalgdbaaGreatDoor.Q
namespace Go.Proofs
open Go.Shelf
def Tryz.laysGt8_ren:Go.Shelf.Ren:=⟨fun | 8=>112 | 13=>135 | 14=>136 | 16=>138 | 15=>137 | 29=>164 | 30=>165 | 42=>185 | 49=>194 | n=>n,fun | 20=>20 | 26=>133 | 36=>151 | 0=>0 | 38=>153 | 42=>157 | 3=>3 | 4=>4 | 47=>137 | 17=>17 | 33=>148 | 34=>149 | 89=>225 | 12=>12 | 56=>173 | 82=>219 | 5=>5 | 83=>220 | 84=>221 | 85=>135 | 86=>222 | 87=>223 | n=>n,fun | n=>n⟩
theorem Tryz.laysGt8:Go.Proofs.LaysGt.n8 Tryz.prog Tryz.laysGt8_ren := {
 mixed:=by kernel_rfl
 f8:=Tryz.func112.trans (congrArg some (by kernel_rfl))
 f13:=Tryz.func135.trans (congrArg some (by kernel_rfl))
 f14:=Tryz.func136.trans (congrArg some (by kernel_rfl))
 f15:=Tryz.func137.trans (congrArg some (by kernel_rfl))
 f16:=Tryz.func138.trans (congrArg some (by kernel_rfl))
 f29:=Tryz.func164.trans (congrArg some (by kernel_rfl))
 f30:=Tryz.func165.trans (congrArg some (by kernel_rfl))
 f42:=Tryz.func185.trans (congrArg some (by kernel_rfl))
 f49:=Tryz.func194.trans (congrArg some (by kernel_rfl))
 t0:=Tryz.underlying0
 a0:=Tryz.isAgg0
 z0:=Tryz.sizeOf0
 v0:=Tryz.zeroValue0
 i0:=by kernel_rfl
 t3:=Tryz.underlying3
 a3:=Tryz.isAgg3
 z3:=Tryz.sizeOf3
 v3:=Tryz.zeroValue3
 i3:=by kernel_rfl
 t4:=Tryz.underlying4
 a4:=Tryz.isAgg4
 z4:=Tryz.sizeOf4
 v4:=Tryz.zeroValue4
 i4:=by kernel_rfl
 t5:=Tryz.underlying5
 a5:=Tryz.isAgg5
 z5:=Tryz.sizeOf5
 v5:=Tryz.zeroValue5
 i5:=by kernel_rfl
 t12:=Tryz.underlying12
 a12:=Tryz.isAgg12
 z12:=Tryz.sizeOf12
 v12:=Tryz.zeroValue12
 i12:=by kernel_rfl
 t17:=Tryz.underlying17
 a17:=Tryz.isAgg17
 z17:=Tryz.sizeOf17
 v17:=Tryz.zeroValue17
 i17:=by kernel_rfl
 t20:=Tryz.underlying20
 a20:=Tryz.isAgg20
 z20:=Tryz.sizeOf20
 v20:=Tryz.zeroValue20
 i20:=by kernel_rfl
 t26:=Tryz.underlying133
 a26:=Tryz.isAgg133
 z26:=Tryz.sizeOf133
 v26:=Tryz.zeroValue133
 i26:=by kernel_rfl
 t33:=Tryz.underlying148
 a33:=Tryz.isAgg148
 z33:=Tryz.sizeOf148
 v33:=Tryz.zeroValue148
 i33:=by kernel_rfl
 t34:=Tryz.underlying149
 a34:=Tryz.isAgg149
 z34:=Tryz.sizeOf149
 v34:=Tryz.zeroValue149
 i34:=by kernel_rfl
 t36:=Tryz.underlying151
 a36:=Tryz.isAgg151
 z36:=Tryz.sizeOf151
 v36:=Tryz.zeroValue151
 i36:=by kernel_rfl
 t38:=Tryz.underlying153
 a38:=Tryz.isAgg153
 z38:=Tryz.sizeOf153
 v38:=Tryz.zeroValue153
 i38:=by kernel_rfl
 t42:=Tryz.underlying157
 a42:=Tryz.isAgg157
 z42:=Tryz.sizeOf157
 v42:=Tryz.zeroValue157
 i42:=by kernel_rfl
 t47:=Tryz.underlying137
 a47:=Tryz.isAgg137
 z47:=Tryz.sizeOf137
 v47:=Tryz.zeroValue137
 i47:=by kernel_rfl
 t56:=Tryz.underlying173
 a56:=Tryz.isAgg173
 z56:=Tryz.sizeOf173
 v56:=Tryz.zeroValue173
 i56:=by kernel_rfl
 t82:=Tryz.underlying219
 a82:=Tryz.isAgg219
 z82:=Tryz.sizeOf219
 v82:=Tryz.zeroValue219
 i82:=by kernel_rfl
 t83:=Tryz.underlying220
 a83:=Tryz.isAgg220
 z83:=Tryz.sizeOf220
 v83:=Tryz.zeroValue220
 i83:=by kernel_rfl
 t84:=Tryz.underlying221
 a84:=Tryz.isAgg221
 z84:=Tryz.sizeOf221
 v84:=Tryz.zeroValue221
 i84:=by kernel_rfl
 t85:=Tryz.underlying135
 a85:=Tryz.isAgg135
 z85:=Tryz.sizeOf135
 v85:=Tryz.zeroValue135
 i85:=by kernel_rfl
 t86:=Tryz.underlying222
 a86:=Tryz.isAgg222
 z86:=Tryz.sizeOf222
 v86:=Tryz.zeroValue222
 i86:=by kernel_rfl
 t87:=Tryz.underlying223
 a87:=Tryz.isAgg223
 z87:=Tryz.sizeOf223
 v87:=Tryz.zeroValue223
 i87:=by kernel_rfl
 t89:=Tryz.underlying225
 a89:=Tryz.isAgg225
 z89:=Tryz.sizeOf225
 v89:=Tryz.zeroValue225
 i89:=by kernel_rfl }
end Go.Proofs
namespace Go.Proofs.YthcpbojmalgdbaaGreatDoor.Q
open Go.RowKit Go.Proofs.YthcpbojmalgdbaaGreatDoorW.PrintWords Go.Proofs.YthcpbojmalgdbaaGreatDoor.Core
open Go.Sort hiding Below
open Go.Lib (swapperK)
noncomputable def siT:TypeInfo:=(Tryz.prog.info? 31).get (by kernel_rfl)
noncomputable def siE:TypeInfo:=(Tryz.prog.info? 3).get (by kernel_rfl)
theorem siK (n:Nat) (h2:2≤n):Lib.swapperK n siE 2=5:=by
 have a:siE.hasPointers=false:=by kernel_rfl
 have b:siE.bytes=8:=by kernel_rfl
 have c:(n == 0)=false:=by simp;omega
 have d:(n == 1)=false:=by simp;omega
 simp [Lib.swapperK,a,b,c,d]
set_option maxRecDepth 100000 in
theorem swapAt_ints (g n c:Nat):SwapAt 159 #[.slice (some ⟨g,0,none⟩) n c,typeHandle Tryz.prog 3] g n :=
 swapSwaps_of_literal (P:=Tryz.prog) true 159 (fun args W=>run_callFunc_extern Tryz.func159 (by kernel_rfl) (by kernel_rfl) (by kernel_rfl) (e:=Extern.ReflectliteSwapper.swap true) (by kernel_rfl) args W) 3 siE (by kernel_rfl) (by kernel_rfl) (fun _=>by kernel_rfl) (Value.int .i64) (fun _=>rfl) g 0 n c
theorem in_upTo (n:Nat):∀ k,k<n→∃ x:Nat,(upTo n).toArray[k]! = (x:Int)∧x<n:=fun k hk=>⟨k,upTo_get hk,hk⟩
set_option maxHeartbeats 2000000 in
theorem sliceStable_any {l:List Flight} {w w0:World} {A:Option Addr} {c g cap:Nat} {pl po:Addr} (S:Srt l w w0 A c pl po g cap) (h:Holds (Value.int .i64) w0 g 0 (upTo l.length).toArray) :
  Calls Tryz.prog 112 #[.iface 31 (.slice (some ⟨g,0,none⟩) l.length cap), .func (.func 113) #[] #[.pointer (some pl), .pointer (some po)]] w0 fun e w'=>e = .returned (.tuple #[])∧∃ d',SW l w0 g d' w'∧d'.toList=ordTo l l.length:=by
 have hl:=S.hl
 have h0:SW l w0 g (upTo l.length).toArray w0:=SW.of_start S (by simp [upTo_length]) (in_upTo _) h
 by_cases h2:2≤l.length
 ·refine Any.sort_SliceStable_of_stable Tryz.laysGt8 31 3 siT siE (by kernel_rfl) (by kernel_rfl) (by kernel_rfl) (by kernel_rfl) 2 (fun _=>by kernel_rfl) (some ⟨g,0,none⟩) l.length cap (by omega) 159 (by rw [siK _ h2];kernel_rfl) (.func 113) #[] #[.pointer (some pl), .pointer (some po)] w0 (fun w'=>∃ d',SW l w0 g d' w'∧d'.toList=ordTo l l.length) ?_
  have hB:sliceBound Tryz.prog 3 siE 2 (some ⟨g,0,none⟩) l.length cap = #[.slice (some ⟨g,0,none⟩) l.length cap,typeHandle Tryz.prog 3]:=by
   unfold sliceBound;rw [if_neg (swapperK_gt _ _ _ h2)]
  rw [hB]
  exact stable_any S ((h0.alloc _).alloc _) _ _ (swapAt_ints g l.length cap)
 ·have e:ordTo l l.length=(upTo l.length):=by
   have h1:=(ordTo_rises l l.length).2
   have:l.length=0∨l.length=1:=by omega
   rcases this with e | e <;> rw [e] at h1 ⊢
   ·rfl
   ·exact List.perm_singleton.1 h1
  rcases (by omega:l.length=0∨l.length=1) with e0 | e0
  ·refine (Any.sort_SliceStable_tiny Tryz.laysGt8 31 3 siT siE (by kernel_rfl) (by kernel_rfl) (by kernel_rfl) (by kernel_rfl) 2 (fun _=>by kernel_rfl) (some ⟨g,0,none⟩) l.length cap (by omega) 155 (by rw [e0];kernel_rfl) (.func 113) #[] #[.pointer (some pl), .pointer (some po)] w0).mono ?_
   rintro e' w' ⟨rfl,os,rfl⟩
   have:=h0.grown 0 os
   exact ⟨rfl,_,this,by rw [e]⟩
  ·refine (Any.sort_SliceStable_tiny Tryz.laysGt8 31 3 siT siE (by kernel_rfl) (by kernel_rfl) (by kernel_rfl) (by kernel_rfl) 2 (fun _=>by kernel_rfl) (some ⟨g,0,none⟩) l.length cap (by omega) 156 (by rw [e0];kernel_rfl) (.func 113) #[] #[.pointer (some pl), .pointer (some po)] w0).mono ?_
   rintro e' w' ⟨rfl,os,rfl⟩
   have:=h0.grown 0 os
   exact ⟨rfl,_,this,by rw [e]⟩
end Go.Proofs.YthcpbojmalgdbaaGreatDoor.Q
namespace Go.Proofs.YthcpbojmalgdbaaGreatDoor.Q
open Go.RowKit Go.Proofs.YthcpbojmalgdbaaGreatDoorW.PrintWords Go.Proofs.YthcpbojmalgdbaaGreatDoor.Core
open Go.Sort hiding Below
theorem holds_of_R {w:World} {base g cap:Nat} {ok:Nat→Prop} {xs:List Int} (h:Kd.R (Kd.int .i64) 3 w base ok (.slice (some ⟨g,0,none⟩) xs.length cap) xs):Holds (Value.int .i64) w g 0 xs.toArray:=fun j hj=>by
 have hj:j<xs.length:=by simpa using hj
 have:=Kd.R_cell (0:Int) h (j:Int) (by omega) (by omega)
 rw [Int.toNat_natCast] at this
 rw [Nat.zero_add]
 refine ⟨?_,this.2⟩
 rw [this.1]
 congr 2
 rw [getElem!_pos _ j (by simpa using hj)]
 unfold rdOf
 simp [List.getD_eq_getElem?_getD,hj]
theorem R_put_row {w:World} {base g cap n:Nat} {ok:Nat→Prop} {xs:List Int} (h:Kd.R (Kd.int .i64) 3 w base ok (.slice (some ⟨g,0,none⟩) n cap) xs) (hn:xs.length=n) (d:Array Int) (hd:d.size=n) (m:Nat) (os:Array Obj) :
  Kd.R (Kd.int .i64) 3 (grow (putRow (Value.int .i64) (Sort.ahead w m) g 0 d) os) base ok (.slice (some ⟨g,0,none⟩) n cap) d.toList:=by
 have ho:=Kd.own_of_R h
 have hok:=h.1
 refine Kd.R_of_own ?_ hok
 obtain ⟨hl,hh | ⟨g',cap',cur,hv,hb,hc,h1,h2,h3,h4⟩⟩:=ho
 ·cases hh.1
 ·injection hv with e1 e2 e3
  injection e1 with e1
  injection e1 with e1
  subst e1 e3
  have hlt:g<w.heap.size:=by
   rcases Nat.lt_or_ge g w.heap.size with h | h
   ·exact h
   ·rw [Array.getElem?_eq_none h] at hc;cases hc
  refine ⟨by simp [encs], .inr ⟨g,cap,putCells (Value.int .i64) 0 d cur,by rw [Array.length_toList,hd],hb,?_,by rw [Array.length_toList];omega,h2,by unfold putCells;simpa using h3,?_⟩⟩
  ·rw [heap_grow_old _ _ (by rw [size_putRow];exact hlt)]
   simp only [putRow,mapBlock,Array.getElem?_modify,if_pos]
   rw [show (Sort.ahead w m).heap=w.heap from rfl,hc]
   rfl
  ·apply List.ext_getElem?
   intro k
   have hcur:cur.size=cap:=by rw [h3,Nat.mul_one]
   rw [List.getElem?_take,Array.length_toList,Nat.mul_one]
   by_cases hk:k<d.size
   ·rw [if_pos hk]
    unfold encs putCells
    rw [Array.getElem?_toList,Array.getElem?_mapIdx,Array.getElem?_eq_getElem (by omega)]
    simp only [Option.map_some,List.getElem?_map,Array.getElem?_toList,Array.getElem?_eq_getElem hk]
    rw [if_pos ⟨Nat.zero_le _,by omega⟩,Nat.sub_zero,getElem!_pos d k hk]
   ·rw [if_neg hk]
    unfold encs
    rw [List.getElem?_eq_none (by simp;omega)]
set_option maxRecDepth 100000 in
set_option maxHeartbeats 4000000 in
theorem impl_order_any (A:Option Addr) (c:Nat) (l:List Flight) (w:World) (hr:Kd.C k45 w A l.length l) (hl:l.length≤2000000) :
  Calls Tryz.prog 79 #[.slice A l.length c] w fun e w'=>∃ v,e = .returned v∧Kd.R (Kd.int .i64) 3 w' w.heap.size (fun _=>True) v (ordTo l l.length)∧Below w.heap.size w w':=by
 have HR:=Lib.hid hr
 go_enter Tryz.func79,Tryz.ntmps79
 go_wp2
 have hw0:Hid (Below w.heap.size w (((w.alloc (.cells #[.slice A l.length c] 30)).alloc (.cells #[] 3)).alloc (.cells #[.slice (some ⟨w.heap.size+1,0,none⟩) 0 0] 31))) :=
  (((Below.refl _ _).alloc (Nat.le_refl _) _).alloc (by simp) _).alloc (by simp;omega) _
 have r0:Hid (Kd.R (Kd.int .i64) 3 (((w.alloc (.cells #[.slice A l.length c] 30)).alloc (.cells #[] 3)).alloc (.cells #[.slice (some ⟨w.heap.size+1,0,none⟩) 0 0] 31)) w.heap.size (fun k=>k≠w.heap.size∧k≠w.heap.size+2) (.slice (some ⟨w.heap.size+1,0,none⟩) 0 0) (upTo 0)):=by
  have t:=Kd.R_of_own (h1:=fun _=>rfl) (enc:=Value.int .i64) (e:=3) (ok:=fun k=>k≠w.heap.size∧k≠w.heap.size+2) (xs:=([]:List Int)) (World.ownsRow_made (w.alloc (.cells #[.slice A l.length c] 30)) #[] 0 (base:=w.heap.size) (e:=3) (by simp) (Nat.zero_le _) rfl) (fun k hk=>by simp [Value.ownBlock] at hk;omega)
  have t2:=Kd.R_alloc t (.cells #[.slice (some ⟨w.heap.size+1,0,none⟩) 0 0] 31)
  rw [show (w.alloc (.cells #[.slice A l.length c] 30)).heap.size=w.heap.size+1 by simp] at t2
  exact t2
 have h0:(((w.alloc (.cells #[.slice A l.length c] 30)).alloc (.cells #[] 3)).alloc (.cells #[.slice (some ⟨w.heap.size+1,0,none⟩) 0 0] 31)).heap[w.heap.size]? = some (.cells #[.slice A l.length c] 30 (0,0)):=blk_alloc (blk_alloc (blk_new _ _) _) _
 have h2:(((w.alloc (.cells #[.slice A l.length c] 30)).alloc (.cells #[] 3)).alloc (.cells #[.slice (some ⟨w.heap.size+1,0,none⟩) 0 0] 31)).heap[w.heap.size+1+1]? = some (.cells #[.slice (some ⟨w.heap.size+1,0,none⟩) 0 0] 31 (0,0)):=by
  have t:=blk_new ((w.alloc (.cells #[.slice A l.length c] 30)).alloc (.cells #[] 3)) (.cells #[.slice (some ⟨w.heap.size+1,0,none⟩) 0 0] 31)
  rwa [show ((w.alloc (.cells #[.slice A l.length c] 30)).alloc (.cells #[] 3)).heap.size=w.heap.size+1+1 by simp] at t
 have H0:=Lib.hid h0
 have H2:=Lib.hid h2
 clear h0 h2
 go_loopw [8] (fun vk wr=>∃ (k:Nat) (v:Value),vk = .int .i64 k∧k≤l.length∧Hid (Kd.R (Kd.int .i64) 3 wr w.heap.size (fun k=>k≠w.heap.size∧k≠w.heap.size+2) v (upTo k))∧Hid (wr.heap[w.heap.size]? = some (.cells #[.slice A l.length c] 30 (0,0)))∧Hid (wr.heap[w.heap.size+1+1]? = some (.cells #[v] 31 (0,0)))∧Hid (Below w.heap.size w wr)∧Hid (v.ownBlock≠none)) (fun vk _=>l.length-(intOf vk).toNat)
 case atStart=>exact ⟨0,_,rfl,Nat.zero_le _,r0,H0,H2,hw0,by simp [Hid,Value.ownBlock]⟩
 case round =>
  clear r0 H0 H2 hw0
  obtain ⟨k,v,rfl,hk,HO,HL,HB,hb,HNN⟩:=hrel
  have c2:=blk_cell HB.out 0
  have f2:=blk_frozen HB.out 0
  have hsz:=blk_lt HB.out
  have hne:some (w.heap.size+1+1)≠v.ownBlock:=fun e=>by have:=(HO.out.1 _ e.symm).2;omega
  have hne0:some w.heap.size≠v.ownBlock:=fun e=>by have:=(HO.out.1 _ e.symm).1;omega
  simp only [List.getElem?_toArray,List.getElem?_cons_zero] at c2
  by_cases hlt:k<l.length
  ·have hwl:=hb.out.size
   go_wp2_with (first
    | (at_builtin;refine Kd.R_append (Kd.int .i64) (w0:=w) w.heap.size rfl _ _ 31 3 (.int .i64 0) 8 rfl Tryz.underlying31 infoInt rfl (by decide) (by decide) v (upTo k) (k:Int) [.int .i64 (k:Int)] (fun k=>k≠w.heap.size∧k≠w.heap.size+2) (fun _=>False) rfl rfl rfl (fun _ h=>h.elim) (fun j hj=>by constructor <;> omega) HO.out hb.out hwl (by rw [upTo_length];omega) ?_;intro v1 w1 ho hb1 hg1 hat1;obtain ⟨A1,cp1,rfl⟩:=Kd.R_slice ho;obtain ⟨m1,hm1⟩:∃ m,m=(upTo k++[(k:Int)]).length:=⟨_,rfl⟩;rw [← hm1] at ho hat1 ⊢;clear hm1;have g0:=(hg1.block _ (blk_lt HL.out) hne0).trans HL.out;have g2:=(hg1.block _ hsz hne).trans HB.out;have c3:=blk_cell g2 0;have f3:=blk_frozen g2 0;simp only [List.getElem?_toArray,List.getElem?_cons_zero] at c3;have G0:=Lib.hid g0;have G2:=Lib.hid g2;have O1:=Lib.hid ho;have hn1:=Lib.hid hat1;have HB1:=Lib.hid hb1;clear g0 g2 ho hat1 hg1 hb1)
    | go_in)
   go_roundw
   case rel =>
    refine ⟨k+1,_,by go_num,by omega,?_,blk_far G0.out (by show _≠w.heap.size+1+1;omega) _,(blk_set G2.out 0 _:_),HB1.out.setCell (by show w.heap.size≤w.heap.size+1+1;omega) _,?_⟩
    ·have t:=Kd.R_far O1.out (p:=⟨w.heap.size+1+1,0,none⟩) (fun k hk=>by have:=hk.2;show k≠w.heap.size+1+1;omega) (Value.slice A1 m1 cp1)
     rw [upTo_succ]
     exact t
    ·rcases hn1.out with h | ⟨b,h,_⟩
     ·rw [h];exact HNN.out
     ·show _≠none;rw [h];simp
   case measure=>simp [intOf];omega
  ·obtain rfl:k=l.length:=by omega
   obtain ⟨ad,cp,rfl,hcp,hC⟩:=Kd.R_reads HO.out
   obtain ⟨ad,rfl⟩:=own_some HNN.out
   have hhd:=Kd.R_head HO.out
   obtain ⟨g,rfl⟩:=hhd
   have hok:=HO.out.1 g rfl
   have hbase:=Kd.R_base HO.out g rfl
   have hlt2:=Kd.R_lt HO.out g rfl
   have hH:=holds_of_R HO.out
   have c0:=blk_cell HL.out 0
   simp only [List.getElem?_toArray,List.getElem?_cons_zero] at c0
   rw [upTo_length] at c2 hcp hC HO
   have hS:Srt l w wr A c ⟨w.heap.size,0,none⟩ ⟨w.heap.size+1+1,0,none⟩ g cp :=
    ⟨hb.out,hbase,hlt2,c0,c2,fun e=>hok.1 e.symm,fun e=>hok.2 e.symm,HR.out,hl,⟨_,by simp [upTo_length],hH⟩⟩
   have QS:=Lib.hid (sliceStable_any hS hH)
   have HS:=Lib.hid hS
   have HR0:=Lib.hid HO.out
   clear hS hH hok hbase hlt2 hC HO
   go_wp2_with (go_at_call 112;refine QS.out.mono ?_;rintro e w' ⟨rfl,d',HW,hd⟩;have c5:=HW.cell HS.out (fun e=>HS.out.npo e) HS.out.hpo;have HD:=Lib.hid hd;clear hd)
   go_ret
   refine ⟨_,rfl,?_,HW.below HS.out⟩
   rw [← HD.out]
   obtain ⟨h1,_,m,os,rfl⟩:=HW
   exact Kd.R_mono (R_put_row HR0.out (upTo_length _) d' h1 m os) (fun _ _=>trivial)
end Go.Proofs.YthcpbojmalgdbaaGreatDoor.Q
