/- Merged out of this seat's own texts. -/
import Derived.Test.YthcpbojmalgdbaaGreatDoorMlT
import Derived.Test.YthcpbojmalgdbaaGreatDoorMlA
import Derived.Test.YthcpbojmalgdbaaGreatDoorMlD
import Derived.Laws.BytesArg
import Derived.Test.YthcpbojmalgdbaaGreatDoorMlL
import Derived.Test.YthcpbojmalgdbaaGreatDoorMlSr
import Derived.Deep.RegionHeld3
import Derived.Test.YthcpbojmalgdbaaGreatDoorMlAd
import Derived.Test.YthcpbojmalgdbaaGreatDoorMlQ
set_option linter.unusedVariables false
set_option linter.unusedSimpArgs false
namespace Go.Proofs.YthcpbojmalgdbaaGreatDoor.Q
open Go.RowKit Go.Proofs.YthcpbojmalgdbaaGreatDoorW.PrintWords Go.Proofs.YthcpbojmalgdbaaGreatDoorW.PrintLast Go.Proofs.YthcpbojmalgdbaaGreatDoorW.PrintMore Go.Proofs.YthcpbojmalgdbaaGreatDoor.Core
theorem infoString:(Tryz.prog.info? 9).map (fun i=>(i.zero,i.size,i.bytes))=some (some (.string ByteArray.empty),1,16):=by kernel_rfl
theorem byte_here {s:ByteArray} {i:Nat} (h:i<s.size):(Core.bt s)[i]? = some (s[i]'h):=by
 have hl:i<s.data.toList.length:=by simpa using h
 exact List.getElem?_eq_getElem hl
theorem byte_eq {a c:UInt8} {ci:Int} (hc:ci=(c.toNat:Int)) (h:a=c):(((a.toNat:Nat):Int) == ci)=true:=by rw [hc,h];exact beq_self_eq_true _
theorem byte_ne {a c:UInt8} {ci:Int} (hc:ci=(c.toNat:Int)) (h:a≠c):(((a.toNat:Nat):Int) == ci)=false:=by
 rw [beq_eq_false_iff_ne,hc]
 intro e
 exact h (UInt8.toNat_inj.1 (by omega))
set_option maxRecDepth 100000 in
set_option maxHeartbeats 4000000 in
theorem l6Cut_any (s:ByteArray) (c:UInt8) (ci:Int) (hci:ci=(c.toNat:Int)) (w:World) (hs:s.size≤100000000) :
  Calls Tryz.prog 8 #[.string s, .int .u8 ci] w fun e w'=>∃ v,e = .returned v∧Kd.R Kd.string 9 w' w.heap.size (fun _=>True) v (cutB c s)∧Below w.heap.size w w':=by
 go_enter Tryz.func8,Tryz.ntmps8
 have HCI:=Lib.hid hci
 clear hci
 go_wp2
 go_loopw [5,6,7] (fun x vf vi wr=>∃ (i f:Nat) (done:List ByteArray),vi = .int .i64 i∧vf = .int .i64 f∧Hid (CutAt c s i f done)∧Hid (Kd.R Kd.string 9 wr w.heap.size (fun _=>True) x done)∧Hid (Below w.heap.size w wr)) (fun _ _ vi _=>s.size-(intOf vi).toNat)
 case atStart=>exact ⟨0,0,[],rfl,rfl,CutAt.start c s,R_madeF Kd.string w 9 (by decide),below_alloc (Below.refl _ _) _⟩
 case round =>
  obtain ⟨i,f,done,rfl,rfl,HC,HO,HB⟩:=hrel
  have hfi:=HC.out.1
  have his:=HC.out.2.1
  have hdl:=HC.out.2.2.1
  obtain ⟨Ax,cx,rfl⟩:=Kd.R_slice HO.out
  have zr:=HB.out.size
  by_cases hlt:i<s.size
  ·have hb:=Lib.hid (byte_here hlt)
   have b0:(0:Int)≤f:=by omega
   have b1:(f:Int)≤i:=by omega
   have b2:(i:Int)≤s.size:=by omega
   by_cases hc:s[i]'hlt=c
   ·have e1:=byte_eq HCI.out hc
    have HH:=Lib.hid (HC.out.hit (by rw [hb.out,hc]))
    clear hc
    go_wp2_with (first
     | (at_builtin;refine Kd.R_append Kd.string (w0:=w) w.heap.size rfl _ _ 27 9 (.string ByteArray.empty) 16 rfl Tryz.underlying27 infoString rfl (by decide) (by decide) (.slice Ax done.length cx) done (s.extract f i) [.string (s.extract f i)] (fun _=>True) (fun _=>False) rfl rfl rfl (fun _ h=>h.elim) (fun j hj=>trivial) HO.out HB.out zr (by omega) ?_;intro v1 w5 ho5 hb5 hg5 hat5;have HO5:=Lib.hid ho5;have HB5:=Lib.hid hb5;clear ho5 hb5 hg5 hat5)
     | go_in)
    go_roundw
    case rel=>exact ⟨i+1,i+1,_,by go_num,by go_num,HH,HO5,HB5⟩
    case measure=>simp [intOf];omega
   ·have e1:=byte_ne HCI.out hc
    have HH:=Lib.hid (HC.out.miss hb.out hc)
    clear hc
    go_wp2
    go_roundw
    case rel=>exact ⟨i+1,f,_,by go_num,rfl,HH,HO,HB⟩
    case measure=>simp [intOf];omega
  ·obtain rfl:i=s.size:=by omega
   have HH:=Lib.hid HC.out.done
   have b0:(0:Int)≤f:=by omega
   have b1:(f:Int)≤s.size:=by omega
   go_wp2_with (first
    | (at_builtin;refine Kd.R_append Kd.string (w0:=w) w.heap.size rfl _ _ 27 9 (.string ByteArray.empty) 16 rfl Tryz.underlying27 infoString rfl (by decide) (by decide) (.slice Ax done.length cx) done (s.extract f s.size) [.string (s.extract f s.size)] (fun _=>True) (fun _=>False) rfl rfl rfl (fun _ h=>h.elim) (fun j hj=>trivial) HO.out HB.out zr (by omega) ?_;intro v1 w5 ho5 hb5 hg5 hat5;have HO5:=Lib.hid ho5;have HB5:=Lib.hid hb5;clear ho5 hb5 hg5 hat5)
    | go_in)
   go_ret
   have h:=HO5.out
   rw [HH.out] at h
   exact ⟨_,rfl,h,HB5.out⟩
theorem digit_cases (b:UInt8):(decide (((b.toNat:Nat):Int)<48)=true∧Hid (¬ (48≤b.toNat∧b.toNat≤57))) ∨
  (decide (((b.toNat:Nat):Int)<48)=false∧decide ((57:Int)<((b.toNat:Nat):Int))=true∧Hid (¬ (48≤b.toNat∧b.toNat≤57))) ∨
  (decide (((b.toNat:Nat):Int)<48)=false∧decide ((57:Int)<((b.toNat:Nat):Int))=false∧Hid (48≤b.toNat∧b.toNat≤57)):=by
 unfold Hid
 by_cases h1:((b.toNat:Nat):Int)<48
 ·exact .inl ⟨decide_eq_true h1,by omega⟩
 by_cases h2:(57:Int)<((b.toNat:Nat):Int)
 ·exact .inr (.inl ⟨decide_eq_false h1,decide_eq_true h2,by omega⟩)
 ·exact .inr (.inr ⟨decide_eq_false h1,decide_eq_false h2,by omega⟩)
theorem pow_le5 {k:Nat} (h:k≤5):(10:Nat) ^ k≤100000:=Nat.pow_le_pow_right (by decide) h
theorem numB_bad {s:ByteArray} (h:¬ (1≤s.size∧s.size≤5)∨(1<s.size∧(Core.bt s).head? = some 48)):numB s = -1:=by
 unfold numB
 rw [bt_size] at h
 rcases h with h | h
 ·exact numL_bad (.inl h)
 ·exact numL_bad (.inr (.inl h))
theorem head_here {s:ByteArray} (h:0<s.size):(Core.bt s).head? = some (s[0]'h):=by
 rw [List.head?_eq_getElem?]
 exact byte_here h
theorem inB_15 {s:ByteArray} (h:inB s.size 1 5=true):1≤s.size∧s.size≤5:=by
 have:=(by simpa [inB] using h:1≤(s.size:Int)∧(s.size:Int)≤5)
 omega
theorem inB_15' {s:ByteArray} (h:inB s.size 1 5=false):¬ (1≤s.size∧s.size≤5):=by
 intro hc
 rw [inB_true (by omega)] at h
 cases h
set_option maxRecDepth 100000 in
set_option maxHeartbeats 4000000 in
theorem l6Number_any (s:ByteArray) (w:World):Calls Tryz.prog 20 #[.string s] w fun e w'=>e = .returned (.int .i64 (numB s))∧w=w':=by
 cases hi:inB s.size 1 5 with
 | false =>
  have HI:=Lib.hid hi
  have HN:=Lib.hid (numB_bad (.inl (inB_15' hi)))
  clear hi
  go_enter Tryz.func20,Tryz.ntmps20
  go_wp2_with (go_at_call 45;refine (spec_in_any _ _ _ _).mono ?_;rintro e w' ⟨rfl,rfl⟩;rw [HI.out])
  go_ret
  exact ⟨ret_int HN.out.symm,rfl⟩
 | true =>
  obtain ⟨h1,h5⟩:=inB_15 hi
  have HI:=Lib.hid hi
  clear hi
  have hpos:0<s.size:=h1
  by_cases h2:1<s.size
  ·have e2:decide ((1:Int)<s.size)=true:=decide_eq_true (by omega)
   by_cases hz:s[0]'hpos=48
   ·have e3:(((((s[0]'hpos).toNat:Nat):Int)) == 48)=true:=byte_eq (c:=48) rfl hz
    have HN:=Lib.hid (numB_bad (s:=s) (.inr ⟨h2,by rw [head_here hpos,hz]⟩))
    clear hz
    go_enter Tryz.func20,Tryz.ntmps20
    go_wp2_with (go_at_call 45;refine (spec_in_any _ _ _ _).mono ?_;rintro e w' ⟨rfl,rfl⟩;rw [HI.out])
    go_ret
    exact ⟨ret_int HN.out.symm,rfl⟩
   ·have e3:(((((s[0]'hpos).toNat:Nat):Int)) == 48)=false:=byte_ne (c:=48) rfl hz
    have HN:Hid (numB s=numFrom 0 (Core.bt s)):=by
     show _=_
     unfold numB numL
     rw [← bt_size,if_pos ⟨h1,h5,fun h=>hz (Option.some.inj ((head_here hpos).symm.trans h.2))⟩]
    clear hz
    go_enter Tryz.func20,Tryz.ntmps20
    go_wp2_with (go_at_call 45;refine (spec_in_any _ _ _ _).mono ?_;rintro e w' ⟨rfl,rfl⟩;rw [HI.out])
    go_loop [3,4] (fun vn vk=>∃ (k n:Nat),k≤s.size∧vk = .int .i64 k∧vn = .int .i64 n∧n<10 ^ k∧Hid (numFrom n ((Core.bt s).drop k)=numB s)) (fun _ vk=>s.size-(intOf vk).toNat)
    case atStart=>exact ⟨0,0,Nat.zero_le _,rfl,rfl,by decide,by show _=_;rw [HN.out];rfl⟩
    case round =>
     obtain ⟨k,n,hk,rfl,rfl,hn,hN⟩:=hrel
     by_cases hlt:k<s.size
     ·have hst:=Lib.hid (numFrom_step (n:=(n:Int)) (byte_here hlt))
      have hp:=pow_le5 (show k≤5 by omega)
      have hp1:=Lib.hid (Nat.pow_succ 10 k)
      have hbl:(s[k]'hlt).toNat<256:=(s[k]'hlt).toNat_lt
      have m1:IntKind.i64.wrap ((n:Int)*10)=(n:Int)*10:=IntWalk.i64_in _ (by omega)
      have m2:IntKind.i64.wrap ((n:Int)*10+(((s[k]'hlt).toNat:Nat):Int))=(n:Int)*10+(((s[k]'hlt).toNat:Nat):Int):=IntWalk.i64_in _ (by omega)
      have m3:IntKind.i64.wrap ((n:Int)*10+(((s[k]'hlt).toNat:Nat):Int)-48)=(n:Int)*10+(((s[k]'hlt).toNat:Nat):Int)-48:=IntWalk.i64_in _ (by omega)
      rcases digit_cases (s[k]'hlt) with ⟨c1,ho⟩ | ⟨c1,c2,ho⟩ | ⟨c1,c2,ho⟩
      ·go_wp2
       go_ret
       exact ⟨ret_int (by rw [← hN.out,hst.out,if_neg ho.out]),rfl⟩
      ·go_wp2
       go_ret
       exact ⟨ret_int (by rw [← hN.out,hst.out,if_neg ho.out]),rfl⟩
      ·go_wp2
       go_round
       case rel =>
        have ho':=ho.out
        refine ⟨k+1,n*10+(s[k]'hlt).toNat-48,hlt,by go_num,?_,by rw [hp1.out];omega,?_⟩
        ·rw [show ((n*10+(s[k]'hlt).toNat-48:Nat):Int)=(n:Int)*10+(((s[k]'hlt).toNat:Nat):Int)-48 by omega]
        ·show _=_
         rw [← hN.out,hst.out,if_pos ho']
         rw [show ((n*10+(s[k]'hlt).toNat-48:Nat):Int)=(n:Int)*10+(((s[k]'hlt).toNat:Nat):Int)-48 by omega]
       case measure=>simp [intOf];omega
     ·go_wp2
      go_ret
      obtain rfl:k=s.size:=by omega
      exact ⟨ret_int (by rw [← hN.out,List.drop_of_length_le (by rw [bt_size];exact Nat.le_refl _)];rfl),rfl⟩
  ·have e2:decide ((1:Int)<s.size)=false:=decide_eq_false (by omega)
   have HN:Hid (numB s=numFrom 0 (Core.bt s)):=by
    show _=_
    unfold numB numL
    rw [← bt_size,if_pos ⟨h1,h5,fun h=>h2 h.1⟩]
   go_enter Tryz.func20,Tryz.ntmps20
   go_wp2_with (go_at_call 45;refine (spec_in_any _ _ _ _).mono ?_;rintro e w' ⟨rfl,rfl⟩;rw [HI.out])
   go_loop [3,4] (fun vn vk=>∃ (k n:Nat),k≤s.size∧vk = .int .i64 k∧vn = .int .i64 n∧n<10 ^ k∧Hid (numFrom n ((Core.bt s).drop k)=numB s)) (fun _ vk=>s.size-(intOf vk).toNat)
   case atStart=>exact ⟨0,0,Nat.zero_le _,rfl,rfl,by decide,by show _=_;rw [HN.out];rfl⟩
   case round =>
    obtain ⟨k,n,hk,rfl,rfl,hn,hN⟩:=hrel
    by_cases hlt:k<s.size
    ·have hst:=Lib.hid (numFrom_step (n:=(n:Int)) (byte_here hlt))
     have hp:=pow_le5 (show k≤5 by omega)
     have hp1:=Lib.hid (Nat.pow_succ 10 k)
     have hbl:(s[k]'hlt).toNat<256:=(s[k]'hlt).toNat_lt
     have m1:IntKind.i64.wrap ((n:Int)*10)=(n:Int)*10:=IntWalk.i64_in _ (by omega)
     have m2:IntKind.i64.wrap ((n:Int)*10+(((s[k]'hlt).toNat:Nat):Int))=(n:Int)*10+(((s[k]'hlt).toNat:Nat):Int):=IntWalk.i64_in _ (by omega)
     have m3:IntKind.i64.wrap ((n:Int)*10+(((s[k]'hlt).toNat:Nat):Int)-48)=(n:Int)*10+(((s[k]'hlt).toNat:Nat):Int)-48:=IntWalk.i64_in _ (by omega)
     rcases digit_cases (s[k]'hlt) with ⟨c1,ho⟩ | ⟨c1,c2,ho⟩ | ⟨c1,c2,ho⟩
     ·go_wp2
      go_ret
      exact ⟨ret_int (by rw [← hN.out,hst.out,if_neg ho.out]),rfl⟩
     ·go_wp2
      go_ret
      exact ⟨ret_int (by rw [← hN.out,hst.out,if_neg ho.out]),rfl⟩
     ·go_wp2
      go_round
      case rel =>
       have ho':=ho.out
       refine ⟨k+1,n*10+(s[k]'hlt).toNat-48,hlt,by go_num,?_,by rw [hp1.out];omega,?_⟩
       ·rw [show ((n*10+(s[k]'hlt).toNat-48:Nat):Int)=(n:Int)*10+(((s[k]'hlt).toNat:Nat):Int)-48 by omega]
       ·show _=_
        rw [← hN.out,hst.out,if_pos ho']
        rw [show ((n*10+(s[k]'hlt).toNat-48:Nat):Int)=(n:Int)*10+(((s[k]'hlt).toNat:Nat):Int)-48 by omega]
      case measure=>simp [intOf];omega
    ·go_wp2
     go_ret
     obtain rfl:k=s.size:=by omega
     exact ⟨ret_int (by rw [← hN.out,List.drop_of_length_le (by rw [bt_size];exact Nat.le_refl _)];rfl),rfl⟩
theorem str_digit {a:Int} (h0:0≤a) (h1:a<10):strOfNums [(wrap64 (48+a)) % 256]=mkB [UInt8.ofNat (48+a.toNat)]:=by
 have e:wrap64 (48+a)=48+a:=wrap_small (by omega) (by omega)
 rw [e]
 unfold strOfNums mkB
 rw [List.map_singleton,show ((48+a) % 256).toNat=48+a.toNat by omega]
theorem dec_val:∀ (n K:Nat) (a:Int),n≤1000000000000→0≤a→a.toNat≤n→n+1≤K→spec_l6Dec.f K a=some (decS a):=by
 intro n
 induction n using Nat.strongRecOn with
 | ind n ih =>
  intro K a hnn h0 hn hK
  obtain ⟨K,rfl⟩:∃ m,K=m+1:=⟨K-1,by omega⟩
  rw [spec_l6Dec.f,if_neg (by omega)]
  by_cases h1:a<10
  ·rw [if_pos h1,str_digit h0 h1,decS_small h0 h1]
  ·rw [if_neg h1]
   have e:wrap64 (Int.tdiv a 10)=a / 10:=by rw [Int.tdiv_eq_ediv_of_nonneg h0];exact wrap_small (by omega) (by omega)
   have e2:Int.tmod a 10=a % 10:=Int.tmod_eq_emod_of_nonneg h0
   have hs:=ih (n-1) (by omega) K (a / 10) (by omega) (by omega) (by omega) (by omega)
   have hl:=decS_size (n:=a / 10) (by omega) (by omega)
   have hb:decS a=decS (a / 10)++mkB [UInt8.ofNat (48+(a % 10).toNat)]:=decS_big (by omega)
   have h9:(mkB [UInt8.ofNat (48+(a % 10).toNat)]).size=1:=rfl
   rw [e,hs,Option.bind_some,Option.bind_some,e2,str_digit (by omega) (by omega),if_pos (by omega),hb]
theorem decV_any (n:Int) (w:World) (h0:0≤n) (h1:n≤1000000000000):Calls Tryz.prog 18 #[.int .i64 n] w fun e w'=>e = .returned (.string (decS n))∧Below w.heap.size w w' :=
 (spec_l6Dec.calls (n.toNat+1) n (decS n) w (dec_val n.toNat (n.toNat+1) n (by omega) h0 (Nat.le_refl _) (Nat.le_refl _))).mono fun _ _ h=>⟨h.1,h.2⟩
theorem ret_str {a b:ByteArray} (h:a=b):Ending.returned (.string a) = .returned (.string b):=by rw [h]
theorem slots_neg {b:Book} {k:Nat} {f:Flight} {x:Int} (hf:b.f1[k]? = some f) (hx:b.f2[k]? = some x) (h:x<0):slotsTo b k++f.f0++⟨#[64]⟩++⟨#[45,32]⟩=slotsTo b (k+1):=by
 rw [slotsTo_step hf hx]
 unfold oneT slotT
 dsimp only
 rw [if_pos h]
 refine bt_inj ?_
 simp only [bt_append,List.append_assoc]
 rfl
theorem slots_pos {b:Book} {k:Nat} {f:Flight} {x:Int} (hf:b.f1[k]? = some f) (hx:b.f2[k]? = some x) (h:¬ x<0):slotsTo b k++f.f0++⟨#[64]⟩++decS x++⟨#[32]⟩=slotsTo b (k+1):=by
 rw [slotsTo_step hf hx]
 unfold oneT slotT
 dsimp only
 rw [if_neg h]
 refine bt_inj ?_
 simp only [bt_append,List.append_assoc]
theorem name_small {b:Book} (h:okB b=true) {k:Nat} {f:Flight} (hf:b.f1[k]? = some f):f.f0.size≤8:=by
 have hfl:=(slotsB_parts (fitsB_parts h).2.1).1
 have hn:=(flightB_parts ((flightsB_parts hfl).2.1 _ (List.mem_of_getElem? hf))).1
 unfold nameB inB at hn
 simp only [Bool.and_eq_true,decide_eq_true_eq] at hn
 have:=hn.1.2
 omega
theorem slot_small {b:Book} (h:okB b=true) {k:Nat} {x:Int} (hx:b.f2[k]? = some x):x≤10060:=((slotsB_parts (fitsB_parts h).2.1).2.2 _ (List.mem_of_getElem? hx)).2
set_option maxRecDepth 100000 in
set_option maxHeartbeats 4000000 in
theorem l6Slots_any (A0:Option Addr) (c0:Nat) (A1:Option Addr) (c1:Nat) (A2:Option Addr) (c2:Nat) (b:Book) (w:World) (hr1:Kd.C k45 w A1 b.f1.length b.f1) (hr2:Kd.C (Kd.int .i64) w A2 b.f2.length b.f2) (hok:okB b=true) :
  Calls Tryz.prog 26 #[.agg #[.slice A0 b.f0.length c0, .slice A1 b.f1.length c1, .slice A2 b.f2.length c2]] w fun e w'=>e = .returned (.string (slotsT b))∧Below w.heap.size w w':=by
 have HR1:=Lib.hid hr1
 have HR2:=Lib.hid hr2
 have HOK:=Lib.hid hok
 have hl:=okB_len hok
 have h8:=(flightsB_parts (slotsB_parts (fitsB_parts hok).2.1).1).1
 have HL:=Lib.hid hl
 have HD:=Lib.hid (delay_bounds hok)
 have HZ:=Lib.hid (slotsTo_size hok)
 clear hr1 hr2 hok hl
 have HX0:=Lib.hid (blk_new w (.cells #[.slice A0 b.f0.length c0, .slice A1 b.f1.length c1, .slice A2 b.f2.length c2] 33))
 go_enter Tryz.func26,Tryz.ntmps26
 go_wp2
 go_loopw [3,4] (fun vo vk wr=>∃ (k:Nat) (o:ByteArray),vk = .int .i64 k∧vo = .string o∧k≤b.f1.length∧Hid (o=slotsTo b k)∧Hid (wr.heap[w.heap.size]? = some (.cells #[.slice A0 b.f0.length c0, .slice A1 b.f1.length c1, .slice A2 b.f2.length c2] 33 (0,0)))∧Hid (Below w.heap.size w wr)) (fun _ vk _=>b.f1.length-(intOf vk).toNat)
 case atStart=>exact ⟨0,_,rfl,rfl,Nat.zero_le _,rfl,HX0,below_alloc (Below.refl _ _) _⟩
 case round =>
  obtain ⟨k,o,rfl,rfl,hk,HO,HX,HB⟩:=hrel
  clear HX0
  obtain ⟨wq,rfl⟩:∃ wo:World,wo=wr:=⟨_,rfl⟩
  have d1:=(blk_cell HX.out 1).trans rfl
  have d2:=(blk_cell HX.out 2).trans rfl
  have ho:o.size≤28*k:=by rw [HO.out];exact HZ.out k hk
  by_cases hlt:k<b.f1.length
  ·have j1:(k:Int)<b.f1.length:=by omega
   have hk2:k<b.f2.length:=by rw [HL.out];exact hlt
   have j2:(k:Int)<b.f2.length:=by omega
   obtain ⟨ad,f,A3,c3,rfl,hf,f0,f1,f2,f3,hl3,hr3⟩:=flightAt (Kd.C_below HR1.out HB.out) k hlt
   obtain ⟨ad2,x,rfl,hx,cx⟩:=intAt (Kd.C_below HR2.out HB.out) k hk2
   have hn:=name_small HOK.out hf
   have q1:¬ (9223372036854775807:Nat)<o.size+f.f0.size:=by omega
   have q2:¬ (9223372036854775807:Nat)<o.size+f.f0.size+1:=by omega
   have q3:¬ (9223372036854775807:Nat)<o.size+f.f0.size+1+2:=by omega
   by_cases hneg:x<0
   ·have e1:decide (x<0)=true:=decide_eq_true hneg
    have HE:=Lib.hid (slots_neg hf hx hneg)
    clear hf hx hneg
    go_wp2
    go_roundw
    case rel=>exact ⟨k+1,_,by go_num,rfl,hlt,by show _=_;rw [← HE.out,HO.out],HX,HB⟩
    case measure=>simp [intOf];omega
   ·have e1:decide (x<0)=false:=decide_eq_false hneg
    have HE:=Lib.hid (slots_pos hf hx hneg)
    have hxs:=slot_small HOK.out hx
    have hz:=decS_size (n:=x) (by omega) (by omega)
    have q4:¬ (9223372036854775807:Nat)<o.size+f.f0.size+1+(decS x).size:=by omega
    have q5:¬ (9223372036854775807:Nat)<o.size+f.f0.size+1+(decS x).size+1:=by omega
    clear hf hx
    go_wp2_with (fail)
    refine (decV_any x _ (by omega) (by omega)).mono ?_
    rintro e w4 ⟨rfl,hb⟩
    go_wp2
    go_roundw
    case rel=>exact ⟨k+1,_,by go_num,rfl,hlt,by show _=_;rw [← HE.out,HO.out],blk_below HX.out hb,below_next HB.out HB.out.size hb⟩
    case measure=>simp [intOf];omega
  ·obtain rfl:k=b.f1.length:=by omega
   have hdl:=HD.out
   have hz:=decS_size (n:=delayN b.f1 b.f2) hdl.1 (by omega)
   have q1:¬ (9223372036854775807:Nat)<o.size+5:=by omega
   have q2:¬ (9223372036854775807:Nat)<o.size+5+(decS (delayN b.f1 b.f2)).size:=by omega
   go_wp2_with (fail)
   refine (spec_delay_any A1 c1 b.f1 A2 c2 b.f2 _ (Kd.C_below HR1.out HB.out) (Kd.C_below HR2.out HB.out)).mono ?_
   rintro e w4 ⟨rfl,hb⟩
   have HB4:=Lib.hid (below_next HB.out HB.out.size hb)
   clear hb
   go_wp2_with (fail)
   refine (decV_any _ _ hdl.1 (by omega)).mono ?_
   rintro e w5 ⟨rfl,hb⟩
   have HB5:=Lib.hid (below_next HB4.out HB4.out.size hb)
   clear hb
   go_wp2
   go_ret
   exact ⟨ret_str (by rw [HO.out];rfl),HB5.out⟩
theorem runAtC {w:World} {A:Option Addr} {xs:List Run} (h:Kd.C k74 w A xs.length xs) (k:Nat) (hk:k<xs.length) :
  ∃ ad x,A=some ad∧xs[k]? = some x∧w.cell? (ad.add (k*3))=some (.int .i64 x.f0)∧w.cell? ⟨(ad.add (k*3)).block,(ad.add (k*3)).off+1,none⟩=some (.int .i64 x.f1) ∧
   w.cell? ⟨(ad.add (k*3)).block,(ad.add (k*3)).off+2,none⟩=some (.int .i64 x.f2):=by
 obtain ⟨ad,e,h0,h1,h2⟩:=at_T74 h k (by omega) (by omega)
 have er:rd_T74 xs k=xs[k]:=by
  unfold rd_T74
  rw [Int.toNat_natCast,List.getD_eq_getElem?_getD,List.getElem?_eq_getElem hk]
  rfl
 rw [er] at h0 h1 h2
 exact ⟨ad,xs[k],e,List.getElem?_eq_getElem hk,h0,h1,h2⟩
theorem runs_first {l:List Run} {r:Run} (h:l[0]? = some r):ByteArray.empty++decS r.f0++⟨#[45]⟩++decS r.f1++⟨#[58]⟩++decS r.f2=runsTo l 1:=by
 rw [runsTo_step h,if_pos rfl,ba_nil]
 rfl
theorem runs_next {l:List Run} {k:Nat} {r:Run} (h:l[k]? = some r) (hk:0<k):runsTo l k++⟨#[32]⟩++decS r.f0++⟨#[45]⟩++decS r.f1++⟨#[58]⟩++decS r.f2=runsTo l (k+1):=by
 rw [runsTo_step h,if_neg (by omega)]
 unfold Core.runT
 refine bt_inj ?_
 simp only [bt_append,List.append_assoc]
theorem runs_some {l:List Run} (h:l≠[]):¬ runsTo l l.length=⟨#[]⟩:=by
 cases e:l.length with
 | zero=>exact absurd (List.length_eq_zero_iff.1 e) h
 | succ n =>
  have hr:l[n]? = some l[n]:=List.getElem?_eq_getElem (by omega)
  intro hc
  have h1:=congrArg ByteArray.size hc
  rw [runsTo_step hr] at h1
  have h2:(⟨#[]⟩:ByteArray).size=0:=rfl
  have h3:0<(Core.runT l[n]).size:=by
   unfold Core.runT
   rw [size_app,size_app]
   have e2:(⟨#[58]⟩:ByteArray).size=1:=rfl
   omega
  split at h1
  ·omega
  ·rw [size_app] at h1;omega
theorem runsT_some {l:List Run} (h:l≠[]):runsT l=runsTo l l.length:=by
 unfold runsT
 rw [if_neg h]
theorem emp_yes {o:ByteArray} (h:o=⟨#[]⟩):o.toList.isEmpty=true:=by rw [h,ByteArray.toList_eq];rfl
theorem emp_no {o:ByteArray} (h:¬ o=⟨#[]⟩):o.toList.isEmpty=false:=by
 rw [ByteArray.toList_eq]
 obtain ⟨⟨l⟩⟩:=o
 cases l with
 | nil=>exact absurd rfl h
 | cons _ _=>rfl
set_option maxRecDepth 100000 in
set_option maxHeartbeats 4000000 in
theorem l6Runs_any (A:Option Addr) (c:Nat) (l:List Run) (w:World) (hr:Kd.C k74 w A l.length l) (hrk:∀ r∈l,RunOk r) (hlen:l.length≤10300) :
  Calls Tryz.prog 29 #[.slice A l.length c] w fun e w'=>e = .returned (.string (runsT l))∧Below w.heap.size w w':=by
 have HR:=Lib.hid hr
 have HK:=Lib.hid hrk
 have HZ:=Lib.hid (runsTo_size (l:=l) (fun r hr=>by
   obtain ⟨h0,h1,h2⟩:=hrk r hr
   exact Core.runT_size ⟨h0.1,by omega⟩ ⟨h1.1,by omega⟩ ⟨h2.1,by omega⟩))
 clear hr hrk
 go_enter Tryz.func29,Tryz.ntmps29
 go_wp2
 go_loopw [3,4] (fun vo vk wr=>∃ (k:Nat) (o:ByteArray),vk = .int .i64 k∧vo = .string o∧k≤l.length∧Hid (o=runsTo l k)∧Hid (Below w.heap.size w wr)) (fun _ vk _=>l.length-(intOf vk).toNat)
 case atStart=>exact ⟨0,_,rfl,rfl,Nat.zero_le _,(runsTo_zero l).symm,Below.refl _ _⟩
 case round =>
  obtain ⟨k,o,rfl,rfl,hk,HO,HB⟩:=hrel
  obtain ⟨wq,rfl⟩:∃ wo:World,wo=wr:=⟨_,rfl⟩
  have ho:o.size≤57*k:=by rw [HO.out];exact HZ.out k hk
  by_cases hlt:k<l.length
  ·have j1:(k:Int)<l.length:=by omega
   obtain ⟨ad,r,rfl,hf,f0,f1,f2⟩:=runAtC (Kd.C_below HR.out HB.out) k hlt
   obtain ⟨k0,k1,k2⟩:=HK.out r (List.mem_of_getElem? hf)
   have z0:=decS_size k0.1 (by omega)
   have z1:=decS_size k1.1 (by omega)
   have z2:=decS_size k2.1 (by omega)
   have HF:=Lib.hid hf
   have m0:=After.cell f0
   have m1:=After.cell f1
   have m2:=After.cell f2
   have QD:=Lib.hid (fun (u:After wq) (n:Int) (h0:0≤n) (h1:n≤1000000000000)=>decV_any n u.w h0 h1)
   clear hf f0 f1 f2
   by_cases hk0:0<k
   ·have e1:decide ((0:Int)<k)=true:=decide_eq_true (by omega)
    have e1':decide (0<k)=true:=decide_eq_true hk0
    have q0:¬ (9223372036854775807:Nat)<o.size+1:=by omega
    have q1:¬ (9223372036854775807:Nat)<o.size+1+(decS r.f0).size:=by omega
    have q2:¬ (9223372036854775807:Nat)<o.size+1+(decS r.f0).size+1:=by omega
    have q3:¬ (9223372036854775807:Nat)<o.size+1+(decS r.f0).size+1+(decS r.f1).size:=by omega
    have q4:¬ (9223372036854775807:Nat)<o.size+1+(decS r.f0).size+1+(decS r.f1).size+1:=by omega
    have q5:¬ (9223372036854775807:Nat)<o.size+1+(decS r.f0).size+1+(decS r.f1).size+1+(decS r.f2).size:=by omega
    have HE:=Lib.hid (runs_next HF.out hk0)
    clear hk0
    go_wp2
    refine wp_region_after (by kernel_rfl) (by kernel_rfl) ?_
    repeat (go_big_quiet_step (first | (go_at_call 18;exact calls_after (QD.out _ _ (by omega) (by omega)))))
    refine wpQuiet_nil ?_
    intro _ hw'
    obtain ⟨u,hw''⟩:=hw'
    subst hw''
    go_wp2
    go_roundw
    case rel=>exact ⟨k+1,_,by go_num,rfl,hlt,by show _=_;rw [← HE.out,HO.out],below_next HB.out HB.out.size u.hb⟩
    case measure=>simp [intOf];omega
   ·have HK0:=Lib.hid (show k=0 by omega)
    have e1:decide ((0:Int)<k)=false:=decide_eq_false (by omega)
    have e1':decide (0<k)=false:=decide_eq_false hk0
    have q1:¬ (9223372036854775807:Nat)<o.size+(decS r.f0).size:=by omega
    have q2:¬ (9223372036854775807:Nat)<o.size+(decS r.f0).size+1:=by omega
    have q3:¬ (9223372036854775807:Nat)<o.size+(decS r.f0).size+1+(decS r.f1).size:=by omega
    have q4:¬ (9223372036854775807:Nat)<o.size+(decS r.f0).size+1+(decS r.f1).size+1:=by omega
    have q5:¬ (9223372036854775807:Nat)<o.size+(decS r.f0).size+1+(decS r.f1).size+1+(decS r.f2).size:=by omega
    have HE:=Lib.hid (runs_first (by have:=HF.out;rwa [HK0.out] at this))
    clear hk0
    go_wp2
    refine wp_region_after (by kernel_rfl) (by kernel_rfl) ?_
    repeat (go_big_quiet_step (first | (go_at_call 18;exact calls_after (QD.out _ _ (by omega) (by omega)))))
    refine wpQuiet_nil ?_
    intro _ hw'
    obtain ⟨u,hw''⟩:=hw'
    subst hw''
    go_wp2
    go_roundw
    case rel=>exact ⟨k+1,_,by go_num,rfl,hlt,by show _=_;rw [HO.out,HK0.out,runsTo_zero];exact HE.out,below_next HB.out HB.out.size u.hb⟩
    case measure=>simp [intOf];omega
  ·obtain rfl:k=l.length:=by omega
   by_cases hn:l=[]
   ·have e1:=emp_yes (o:=o) (by rw [HO.out,hn];rfl)
    have HN:=Lib.hid hn
    clear hn
    go_wp2
    go_ret
    exact ⟨ret_str (by rw [HN.out];rfl),HB.out⟩
   ·have e1:=emp_no (o:=o) (by rw [HO.out];exact runs_some hn)
    go_wp2
    go_ret
    exact ⟨ret_str (by rw [HO.out,runsT_some hn]),HB.out⟩
theorem strCell {e:Nat} {W:World} {base g n cap:Nat} {ok:Nat→Prop} {xs:List ByteArray} (h:Kd.R Kd.string e W base ok (.slice (some ⟨g,0,none⟩) n cap) xs) (k:Nat) {y:ByteArray} (hy:xs[k]? = some y) :
  W.cell? ⟨g,k,none⟩=some (.string y):=by
 have hn:=(Kd.R_reads' h).1
 have hk:=some_lt hy
 have:=(Kd.R_celln ByteArray.empty h (k:Int) (by omega) (by omega)).1
 rw [Int.toNat_natCast] at this
 rw [this]
 unfold rdOf
 rw [Int.toNat_natCast,List.getD_eq_getElem?_getD,hy]
 rfl
theorem visit_short {s:ByteArray} (h:(cutB 58 s).length≠3):visitR s=none:=by
 unfold visitR
 split
 ·rename_i a b c e
  rw [e] at h
  exact absurd rfl h
 ·rfl
theorem visit_three {s:ByteArray} (h:(cutB 58 s).length=3):∃ a b c,cutB 58 s=[a,b,c]∧visitR s=if numB b<0∨numB c<0 then none else some ⟨a,numB b,numB c⟩:=by
 unfold visitR
 match e:cutB 58 s,h with
 | [a,b,c],_=>exact ⟨a,b,c,rfl,rfl⟩
theorem visits_end {ws:List ByteArray} {k:Nat} {s:ByteArray} {vs:List Visit} (hk:ws[k]? = some s) (h:visitsR (ws.take k)=some vs) (hn:visitR s=none):visitsR ws=none:=by
 refine visitsR_none (k:=k+1) ?_
 rw [visitsR_step hk h,hn]
 rfl
theorem visits_more {ws:List ByteArray} {k:Nat} {s:ByteArray} {vs:List Visit} {v:Visit} (hk:ws[k]? = some s) (h:visitsR (ws.take k)=some vs) (hn:visitR s=some v):visitsR (ws.take (k+1))=some (vs++[v]):=by
 rw [visitsR_step hk h,hn]
 rfl
set_option maxRecDepth 100000 in
set_option maxHeartbeats 8000000 in
theorem l6Visits_any (A:Option Addr) (c:Nat) (ws:List ByteArray) (w:World) (hr:Kd.C Kd.string w A ws.length ws) (hsz:∀ s∈ws,s.size≤1000000) (hlen:ws.length≤1000000) :
  Calls Tryz.prog 22 #[.slice A ws.length c] w fun e w'=>∃ v,((∃ vs,visitsR ws=some vs∧e = .returned (.tuple #[v, .bool true])∧Kd.R k52 52 w' w.heap.size (fun _=>True) v vs)∨(visitsR ws=none∧e = .returned (.tuple #[v, .bool false])))∧Below w.heap.size w w':=by
 have HR:=Lib.hid hr
 have HS:=Lib.hid hsz
 clear hr hsz
 go_enter Tryz.func22,Tryz.ntmps22
 go_wp2
 go_loopw [4,5] (fun x vk wr=>∃ (k:Nat) (vs:List Visit),vk = .int .i64 k∧k≤ws.length∧Hid (visitsR (ws.take k)=some vs)∧Hid (Kd.R k52 52 wr w.heap.size (fun _=>True) x vs)∧Hid (Below w.heap.size w wr)) (fun _ vk _=>ws.length-(intOf vk).toNat)
 case atStart=>exact ⟨0,[],rfl,Nat.zero_le _,rfl,R_madeF k52 w 52 (by decide),below_alloc (Below.refl _ _) _⟩
 case round =>
  obtain ⟨k,vs,rfl,hk,HV,HO,HB⟩:=hrel
  obtain ⟨wq,rfl⟩:∃ wo:World,wo=wr:=⟨_,rfl⟩
  have zr:=HB.out.size
  obtain ⟨Ax,cx,rfl⟩:=Kd.R_slice HO.out
  have HVL:=Lib.hid (visitsR_len HV.out)
  have hvl:vs.length≤1000000:=by rw [HVL.out,List.length_take];omega
  by_cases hlt:k<ws.length
  ·have j1:(k:Int)<ws.length:=by omega
   obtain ⟨ad,s,rfl,hs,cs⟩:=strAt (Kd.C_below HR.out HB.out) k hlt
   have hss:=HS.out s (List.mem_of_getElem? hs)
   have HSK:=Lib.hid hs
   clear hs
   go_wp2_with (fail)
   refine (l6Cut_any s 58 58 rfl _ (by omega)).mono ?_
   rintro e w4 ⟨p,rfl,hp,hb⟩
   have z4:=hb.size
   obtain ⟨Ap,cp,rfl⟩:=Kd.R_slice hp
   have hBd:Hid (∀ j,(Value.slice Ax vs.length cx).ownBlock=some j→j<wq.heap.size):=fun j hj=>Kd.R_lt HO.out j hj
   have HO4:=Lib.hid (Kd.R_below HO.out hb)
   have HB4:=Lib.hid (below_next HB.out HB.out.size hb)
   have HP:=Lib.hid hp
   clear hp hb HO HB cs
   by_cases h3:(cutB 58 s).length=3
   ·obtain ⟨a,b,d,hcut,hv⟩:=visit_three h3
    have HC:=Lib.hid hcut
    have HVR:=Lib.hid hv
    clear hv hcut
    have e3:((((cutB 58 s).length:Nat):Int) != 3)=false:=by rw [h3];rfl
    have i0:(0:Int)<(cutB 58 s).length:=by omega
    have i0':0<(cutB 58 s).length:=by omega
    have i1:(1:Int)<(cutB 58 s).length:=by omega
    have i2:(2:Int)<(cutB 58 s).length:=by omega
    obtain ⟨gp,cp',hform,hg0,hg1,csp,hcsp⟩:=Kd.R_form HP.out (by omega)
    injection hform with ea en ec
    subst ea ec
    clear en hcsp csp h3
    have p0:=strCell HP.out 0 (y:=a) (by rw [HC.out];rfl)
    have p1:=strCell HP.out 1 (y:=b) (by rw [HC.out];rfl)
    have p2:=strCell HP.out 2 (y:=d) (by rw [HC.out];rfl)
    by_cases hb0:numB b<0
    ·have eb:decide (numB b<0)=true:=decide_eq_true hb0
     have HE:=Lib.hid (visits_end HSK.out HV.out (by rw [HVR.out,if_pos (.inl hb0)]))
     clear hb0
     go_wp2_with (go_at_call 20;refine (l6Number_any _ _).mono ?_;rintro e w' ⟨rfl,rfl⟩)
     go_ret2
     exact ⟨_, .inr ⟨HE.out,rfl⟩,HB4.out⟩
    ·have eb:decide (numB b<0)=false:=decide_eq_false hb0
     by_cases hd0:numB d<0
     ·have ed:decide (numB d<0)=true:=decide_eq_true hd0
      have HE:=Lib.hid (visits_end HSK.out HV.out (by rw [HVR.out,if_pos (.inr hd0)]))
      clear hb0 hd0
      go_wp2_with (go_at_call 20;refine (l6Number_any _ _).mono ?_;rintro e w' ⟨rfl,rfl⟩)
      go_ret2
      exact ⟨_, .inr ⟨HE.out,rfl⟩,HB4.out⟩
     ·have ed:decide (numB d<0)=false:=decide_eq_false hd0
      have HM:=Lib.hid (visits_more HSK.out HV.out (v:=⟨a,numB b,numB d⟩) (by rw [HVR.out,if_neg (fun h=>h.elim hb0 hd0)]))
      clear hb0 hd0
      have HOd:=Lib.hid (Kd.R_drewN HO4.out 1)
      have HBd:Hid (Below w.heap.size w w4.drew):=pw_below_drewN HB4.out 1
      have zd:Hid (w.heap.size≤w4.drew.heap.size):=HB4.out.size
      have r0:w4.drew.cell? ⟨gp,0,none⟩=some (.string a):=p0
      have r1:w4.drew.cell? ⟨gp,1,none⟩=some (.string b):=p1
      have r2:w4.drew.cell? ⟨gp,2,none⟩=some (.string d):=p2
      have hog:Hid (∀ j,(Value.slice Ax vs.length cx).ownBlock=some j→gp≠j):=fun j hj e=>by have:=hBd.out j hj;omega
      go_wp2_with (first
       | (go_at_call 20;refine (l6Number_any _ _).mono ?_;rintro e w' ⟨rfl,rfl⟩)
       | go_in)
      go_region_held3 (fun W'=>W'.cell? ⟨gp,0,none⟩=some (.string a)∧W'.cell? ⟨gp,1,none⟩=some (.string b)∧W'.cell? ⟨gp,2,none⟩=some (.string d)) (first | (exact ⟨by assumption,by assumption,by assumption⟩) | go_keep) (first
       | (go_at_call 20;refine (l6Number_any _ _).mono ?_;rintro e w' ⟨rfl,rfl⟩)
       | (refine Kd.R_append_step k52 (w0:=w) w.heap.size (by rfl) _ _ 43 52 (.agg #[.string ByteArray.empty, .int .i64 0, .int .i64 0]) 32 (by rfl) Tryz.underlying43 infoVisit rfl (by decide) (by decide) (.slice Ax vs.length cx) vs (⟨a,numB b,numB d⟩:Visit) [.string a, .int .i64 (numB b), .int .i64 (numB d)] (fun _=>True) (fun _=>False) (by rfl) (by rfl) (k52_mkM _ _ _ (⟨a,numB b,numB d⟩:Visit)) (fun _ h=>h.elim) (fun _ _=>trivial) HOd.out HBd.out zd.out (by omega) ?_;intro v1 w8 ho8 hb8 hg8 hat8;obtain ⟨A8,c8,rfl⟩:=Kd.R_slice ho8;have r0:=hg8.cell r0 (fun e=>hog.out _ e.symm rfl);have r1:=hg8.cell r1 (fun e=>hog.out _ e.symm rfl);have r2:=hg8.cell r2 (fun e=>hog.out _ e.symm rfl);have HO8:=Lib.hid ho8;have HB8:=Lib.hid hb8;clear ho8 hb8 hg8 hat8))
      all_goals
       go_wp2
       go_roundw
       case rel=>exact ⟨k+1,_,by go_num,hlt,HM.out,(by have t:=HO8.out;rwa [List.length_append,List.length_singleton] at t),HB8.out⟩
       case measure=>simp [intOf];omega
   ·have e3:((((cutB 58 s).length:Nat):Int) != 3)=true:=by rw [bne_iff_ne];omega
    have HE:=Lib.hid (visits_end HSK.out HV.out (visit_short h3))
    clear h3
    go_wp2
    go_ret2
    exact ⟨_, .inr ⟨HE.out,rfl⟩,HB4.out⟩
  ·obtain rfl:k=ws.length:=by omega
   have HVE:Hid (visitsR ws=some vs):=by have t:=HV.out;rwa [List.take_length] at t
   go_wp2
   go_ret2
   exact ⟨_, .inl ⟨vs,HVE.out,rfl,HO.out⟩,HB.out⟩
theorem cap_step {l:List Cap} {n:ByteArray} {k:Nat} {g:Cap} (hk:l[k]? = some g) (h:capAtB l n=k+cntQ (fun g=>lessB g.f0 n) (l.drop k)):capAtB l n=if lessB g.f0 n=true then k+1+cntQ (fun g=>lessB g.f0 n) (l.drop (k+1)) else k:=by
 have hlt:=some_lt hk
 have e:l.drop k=g :: l.drop (k+1):=by
  have:=List.drop_eq_getElem_cons hlt
  rw [List.getElem?_eq_getElem hlt] at hk
  rw [this,Option.some.inj hk]
 rw [h,e]
 show k+(if lessB g.f0 n=true then cntQ (fun g=>lessB g.f0 n) (l.drop (k+1))+1 else 0)=_
 split
 ·omega
 ·rfl
theorem cap_end {l:List Cap} {n:ByteArray} {k:Nat} (hk:l.length≤k) (h:capAtB l n=k+cntQ (fun g=>lessB g.f0 n) (l.drop k)):capAtB l n=k:=by
 rw [h,List.drop_eq_nil_of_le hk];rfl
theorem capAtB_le (l:List Cap) (n:ByteArray):capAtB l n≤l.length:=cntQ_le _ _
theorem capIn_set {l:List Cap} {n:ByteArray} {t:Int} (h:(l[capAtB l n]?).map (fun c=>c.f0)=some n):capIn l n t=l.set (capAtB l n) ⟨n,t⟩:=by
 unfold capIn
 rw [if_pos h]
theorem capIn_ins {l:List Cap} {n:ByteArray} {t:Int} (h:¬ (l[capAtB l n]?).map (fun c=>c.f0)=some n):capIn l n t=insAt (capAtB l n) ⟨n,t⟩ l:=by
 unfold capIn
 rw [if_neg h]
def capR (b:Book) (sec:ByteArray) (n:Int):Book×ByteArray:=if okB ⟨capIn b.f0 sec n,b.f1,b.f2⟩=true then (⟨capIn b.f0 sec n,b.f1,b.f2⟩,tOk) else (b,tNo)
theorem C_oneC {w:World} {g:Nat} {s:ByteArray} {t:Int} (h:w.heap[g]? = some (.cells #[.string s, .int .i64 t] 80 (0,0))):Kd.C k80 w (some ⟨g,0,none⟩) 1 [⟨s,t⟩]:=by
 refine ⟨rfl,by decide,fun _=>⟨_,rfl,fun j p hj => ?_⟩⟩
 have hj0:j=0:=by have:=some_lt hj;simpa using this
 subst hj0
 obtain rfl:(⟨s,t⟩:Cap)=p:=by simpa using hj
 refine ⟨_,rfl,k80_mk w (⟨s,t⟩:Cap),fun i u hi => ?_⟩
 have hi4:i=0∨i=1:=by have:=some_lt hi;simp at this;omega
 rcases hi4 with rfl | rfl <;> exact (blk_cell h _).trans hi
theorem flights_cap:∀ q,q∈45 :: k45.E→q≠80:=by decide
theorem ints_cap:∀ q,q∈3 :: (Kd.int .i64).E→q≠80:=by decide
theorem OwnB.capSet {w:World} {base g n c:Nat} {v1 v2:Value} {b:Book} (h:OwnB w base (.slice (some ⟨g,0,none⟩) n c) v1 v2 b) (k:Nat) (hk:k<b.f0.length) (s:ByteArray) (t:Int) :
  OwnB ((w.setCell ⟨g,k*2,none⟩ (.string s)).setCell ⟨g,k*2+1,none⟩ (.int .i64 t)) base (.slice (some ⟨g,0,none⟩) n c) v1 v2 ⟨b.f0.set k ⟨s,t⟩,b.f1,b.f2⟩:=by
 have hn:=(Kd.R_reads' h.caps).1
 obtain ⟨cs,hc⟩:=Kd.R_typed h.caps g rfl
 obtain ⟨x,x0,x1,xf0,xf1,hs1,_⟩:=capSetAt h.caps k (by omega)
 obtain ⟨y,y0,y1,yf0,yf1,_,hs2⟩:=capSetAt (hs1 s) k (by omega)
 have hy:y.f0=s:=by
  have e:=World.cell?_setCell_same w ⟨g,k*2,none⟩ (.string s) x0
  rw [y0] at e
  injection e with e
  injection e
 have h2:=hs2 t
 rw [hy,List.set_set] at h2
 have hc1:=blk_set hc (k*2) (.string s)
 exact ⟨h2,Kd.S_set (Kd.S_set h.flights hc flights_cap _ _) hc1 flights_cap _ _,Kd.R_set (Kd.R_set h.slots hc ints_cap _ _) hc1 ints_cap _ _⟩
structure CapW (w V:World) (B:Nat) (p0 p1 p2 x0 x1 x2:Value) (x:Book):Prop where
 P:V.heap[w.heap.size]? = some (.cells #[p0,p1,p2] 33 (0,0))
 Z:V.heap[w.heap.size+1]? = some (.cells #[.slice none 0 0, .slice none 0 0, .slice none 0 0] 33 (0,0))
 X:V.heap[B]? = some (.cells #[x0,x1,x2] 33 (0,0))
 O:OwnB V w.heap.size x0 x1 x2 x
 L:Below w.heap.size w V
 hB:w.heap.size+2≤B
theorem CapW.below {w V V1:World} {B:Nat} {p0 p1 p2 x0 x1 x2:Value} {x:Book} (h:CapW w V B p0 p1 p2 x0 x1 x2 x) (hb:Below V.heap.size V V1):CapW w V1 B p0 p1 p2 x0 x1 x2 x :=
 ⟨blk_below h.P hb,blk_below h.Z hb,blk_below h.X hb,h.O.below hb,below_next h.L h.L.size hb,h.hB⟩
set_option maxRecDepth 100000 in
set_option maxHeartbeats 16000000 in
theorem l6Cap_any {base:Nat} (A0:Option Addr) (c0:Nat) (A1:Option Addr) (c1:Nat) (A2:Option Addr) (c2:Nat) (b:Book) (sec:ByteArray) (n:Int) (w:World) (h:RdB w base (.slice A0 b.f0.length c0) (.slice A1 b.f1.length c1) (.slice A2 b.f2.length c2) b) (hbase:base≤w.heap.size) (hok:okB b=true) :
  Calls Tryz.prog 21 #[.agg #[.slice A0 b.f0.length c0, .slice A1 b.f1.length c1, .slice A2 b.f2.length c2], .string sec, .int .i64 n] w fun e w'=>∃ u0 u1 u2,e = .returned (.tuple #[.agg #[u0,u1,u2], .string (capR b sec n).2])∧RdB w' base u0 u1 u2 (capR b sec n).1∧Below w.heap.size w w':=by
 have HR:=Lib.hid h
 obtain ⟨hr0,hr1,hr2⟩:=h.form_D
 obtain ⟨m0,m1,m2,m3⟩:=fits_small (show fitsB b.f0 b.f1 b.f2=true from hok)
 have W0:Below w.heap.size w ((w.alloc (.cells #[.slice A0 b.f0.length c0, .slice A1 b.f1.length c1, .slice A2 b.f2.length c2] 33)).alloc (.cells #[.slice none 0 0, .slice none 0 0, .slice none 0 0] 33)):=below_alloc (below_alloc (Below.refl _ _) _) _
 have HW0:=Lib.hid W0
 have P0:=Lib.hid (blk_alloc (blk_new w (.cells #[.slice A0 b.f0.length c0, .slice A1 b.f1.length c1, .slice A2 b.f2.length c2] 33)) (.cells #[.slice none 0 0, .slice none 0 0, .slice none 0 0] 33))
 have Z0:Hid (((w.alloc (.cells #[.slice A0 b.f0.length c0, .slice A1 b.f1.length c1, .slice A2 b.f2.length c2] 33)).alloc (.cells #[.slice none 0 0, .slice none 0 0, .slice none 0 0] 33)).heap[w.heap.size+1]? = some (.cells #[.slice none 0 0, .slice none 0 0, .slice none 0 0] 33 (0,0))):=by
  have t:=blk_new (w.alloc (.cells #[.slice A0 b.f0.length c0, .slice A1 b.f1.length c1, .slice A2 b.f2.length c2] 33)) (.cells #[.slice none 0 0, .slice none 0 0, .slice none 0 0] 33)
  rw [World.size_alloc] at t
  exact t
 have QC:=Lib.hid (spec_copy_any A0 c0 A1 c1 A2 c2 b _ (Kd.C_below hr0 W0) (Kd.C_below hr1 W0) (Kd.C_below hr2 W0) m0 m1 m2 m3)
 have HM0:=Lib.hid m0
 clear h hr0 hr1 hr2 W0 m1 m2 m3 hok
 have xa:=(blk_cell P0.out 0).trans rfl
 have xb:=(blk_cell P0.out 1).trans rfl
 have xc:=(blk_cell P0.out 2).trans rfl
 go_enter Tryz.func21,Tryz.ntmps21
 go_wp2_with (fail)
 refine QC.out.mono ?_
 rintro e w1 ⟨u0,u1,u2,rfl,ho,hb⟩
 have z1:w.heap.size+2≤w1.heap.size:=by have:=hb.size;simpa using this
 obtain ⟨AX,cX,CX,dX,DX,eX,rfl,rfl,rfl,_,_,_⟩:=ho.form
 obtain ⟨B,hB⟩:∃ n,n=w1.heap.size:=⟨_,rfl⟩
 have C1:Hid (CapW w (w1.alloc (.cells #[.slice AX b.f0.length cX, .slice CX b.f1.length dX, .slice DX b.f2.length eX] 33)) B (.slice A0 b.f0.length c0) (.slice A1 b.f1.length c1) (.slice A2 b.f2.length c2) (.slice AX b.f0.length cX) (.slice CX b.f1.length dX) (.slice DX b.f2.length eX) b) :=
  ⟨blk_alloc (blk_below P0.out hb) _,blk_alloc (blk_below Z0.out hb) _,by rw [hB];exact blk_new w1 _,(ho.lower (by simp;omega)).below (below_alloc (Below.refl _ _) _),below_next HW0.out HW0.out.size (hb.trans ((below_alloc (Below.refl w1.heap.size w1) _).mono hb.size)),by omega⟩
 clear ho hb QC P0 Z0 xa xb xc HW0
 go_wp2
 rw [← hB]
 clear hB
 go_loopw [9] (fun vk wr=>∃ k:Nat,vk = .int .i64 k∧k≤b.f0.length∧Hid (capAtB b.f0 sec=k+cntQ (fun g=>lessB g.f0 sec) (b.f0.drop k))∧Hid (CapW w wr B (.slice A0 b.f0.length c0) (.slice A1 b.f1.length c1) (.slice A2 b.f2.length c2) (.slice AX b.f0.length cX) (.slice CX b.f1.length dX) (.slice DX b.f2.length eX) b)) (fun vk _=>b.f0.length-(intOf vk).toNat)
 case atStart=>exact ⟨0,rfl,Nat.zero_le _,by show _=_;simp [capAtB],C1⟩
 case round =>
  obtain ⟨k,rfl,hk,HPL,C2⟩:=hrel
  clear C1
  obtain ⟨wq,rfl⟩:∃ wo:World,wo=wr:=⟨_,rfl⟩
  go_upto_region 3 with (fail)
  go_cut [27] (fun s27 wx=>s27 = .bool (decide (k<capAtB b.f0 sec))∧wx=wq)
  case first =>
   have xa:=(blk_cell C2.out.X 0).trans rfl
   by_cases hlt:k<b.f0.length
   ·have j1:(k:Int)<(b.f0.length:Int):=by omega
    obtain ⟨ad,g,rfl,hg,g0,g1⟩:=capAt (Kd.R_reads' C2.out.O.caps).2.2 k hlt
    have hst:=cap_step hg HPL.out
    cases hq:lessB g.f0 sec with
    | true =>
     rw [hq,if_pos rfl] at hst
     have hd:decide (k<capAtB b.f0 sec)=true:=decide_eq_true (by omega)
     have hbl:Op.bytesLess g.f0.toList sec.toList=true:=hq
     have HD:=Lib.hid hd
     clear hst hd hg hq
     go_wp2_with (fail)
     go_meet
     exact ⟨by rw [HD.out],rfl⟩
    | false =>
     rw [hq,if_neg (by decide)] at hst
     have hd:decide (k<capAtB b.f0 sec)=false:=decide_eq_false (by omega)
     have hbl:Op.bytesLess g.f0.toList sec.toList=false:=hq
     have HD:=Lib.hid hd
     clear hst hd hg hq
     go_wp2_with (fail)
     go_meet
     exact ⟨by rw [HD.out],rfl⟩
   ·have j1:¬ (k:Int)<(b.f0.length:Int):=by omega
    have hst:=cap_end (by omega) HPL.out
    have hd:decide (k<capAtB b.f0 sec)=false:=decide_eq_false (by omega)
    have HD:=Lib.hid hd
    clear hst hd
    go_wp2_with (fail)
    go_meet
    exact ⟨by rw [HD.out],rfl⟩
  case rest =>
   obtain ⟨rfl,hwx⟩:=hcut
   rw [hwx]
   clear hwx
   by_cases hgo:k<capAtB b.f0 sec
   ·have hd:decide (k<capAtB b.f0 sec)=true:=decide_eq_true hgo
    have hlt:k<b.f0.length:=by have:=capAtB_le b.f0 sec;omega
    have HN:Hid (capAtB b.f0 sec=k+1+cntQ (fun g=>lessB g.f0 sec) (b.f0.drop (k+1))):=by
     have hst:=cap_step (List.getElem?_eq_getElem hlt) HPL.out
     split at hst
     ·exact hst
     ·omega
    rw [hd]
    clear hd
    go_wp2
    go_roundw
    case rel=>exact ⟨k+1,by go_num,hlt,HN,C2⟩
    case measure=>simp [intOf];omega
   ·have hd:decide (k<capAtB b.f0 sec)=false:=decide_eq_false hgo
    have HK:Hid (capAtB b.f0 sec=k):=by have:=HPL.out;show _=_;omega
    rw [hd]
    clear hgo hd
    have C5:=Lib.hid (C2.out.below (below_alloc (Below.refl _ _) (.cells #[.string sec, .int .i64 n] 80)))
    have T5:=Lib.hid (blk_new wq (.cells #[.string sec, .int .i64 n] 80))
    obtain ⟨T,hT⟩:∃ n,n=wq.heap.size:=⟨_,rfl⟩
    have hTB:B<T:=by have:=blk_lt C2.out.X;omega
    have zT:Hid ((wq.alloc (.cells #[.string sec, .int .i64 n] 80)).heap.size=T+1):=by show _=_;rw [hT];simp
    clear C2 HPL
    go_upto_region 6 with (fail)
    rw [← hT] at T5 ⊢
    obtain ⟨wd,hwd⟩:∃ V,V=wq.alloc (.cells #[.string sec, .int .i64 n] 80):=⟨_,rfl⟩
    rw [← hwd] at C5 T5 zT ⊢
    clear hwd hT
    have xa:=(blk_cell C5.out.X 0).trans rfl
    have HK8:=Lib.hid (show b.f0.length≤1000 from HM0.out)
    by_cases hm:(b.f0[k]?).map (fun c=>c.f0)=some sec
    ·obtain ⟨x,hx,hxs⟩:=Option.map_eq_some_iff.1 hm
     have hlt:k<b.f0.length:=some_lt hx
     have j1:(k:Int)<(b.f0.length:Int):=by omega
     have hpos:0<b.f0.length:=by omega
     obtain ⟨g,cg,hform,hg0,hg1,csg,hcsg⟩:=Kd.R_form C5.out.O.caps hpos
     injection hform with ea en ec
     subst ea ec
     clear en hcsg csg
     obtain ⟨y,y0,y1,yf0,yf1,_,_⟩:=capSetAt C5.out.O.caps k hlt
     obtain ⟨y',yx,y0'⟩:∃ y':Cap,b.f0[k]? = some y'∧wd.cell? ⟨g,k*2,none⟩=some (.string y'.f0):=by
      obtain ⟨ad,z,hz,hzk,z0,z1⟩:=capAt (Kd.R_reads' C5.out.O.caps).2.2 k hlt
      injection hz with hz
      subst hz
      exact ⟨z,hzk,(by rw [Addr.add_lit,Nat.zero_add] at z0;exact z0)⟩
     have hys:y.f0=sec:=by
      rw [y0] at y0'
      injection y0' with e1
      injection e1 with e1
      rw [e1]
      rw [hx] at yx
      rw [← Option.some.inj yx]
      exact hxs
     have e1:=str_same hys
     have HSET:Hid (capIn b.f0 sec n=b.f0.set k ⟨sec,n⟩):=by have:=capIn_set (l:=b.f0) (n:=sec) (t:=n) (by rw [HK.out];exact hm);rw [HK.out] at this;exact this
     have k0_:=(blk_cell T5.out 0).trans rfl
     have k1_:=(blk_cell T5.out 1).trans rfl
     have hBg:B≠g:=fun e=>by subst e;obtain ⟨cs,h1⟩:=Kd.R_typed C5.out.O.caps B rfl;exact blk_ne h1 C5.out.X (by decide) rfl
     have hPg:w.heap.size≠g:=fun e=>by subst e;obtain ⟨cs,h1⟩:=Kd.R_typed C5.out.O.caps w.heap.size rfl;exact blk_ne h1 C5.out.P (by decide) rfl
     have hZg:w.heap.size+1≠g:=fun e=>by subst e;obtain ⟨cs,h1⟩:=Kd.R_typed C5.out.O.caps (w.heap.size+1) rfl;exact blk_ne h1 C5.out.Z (by decide) rfl
     have C7:Hid (CapW w ((wd.setCell ⟨g,k*2,none⟩ (.string sec)).setCell ⟨g,k*2+1,none⟩ (.int .i64 n)) B (.slice A0 b.f0.length c0) (.slice A1 b.f1.length c1) (.slice A2 b.f2.length c2) (.slice (some ⟨g,0,none⟩) b.f0.length cX) (.slice CX b.f1.length dX) (.slice DX b.f2.length eX) ⟨b.f0.set k ⟨sec,n⟩,b.f1,b.f2⟩):=⟨(Below.heap_setCell _ ⟨g,k*2+1,none⟩ _ _ hPg).trans ((Below.heap_setCell _ ⟨g,k*2,none⟩ _ _ hPg).trans C5.out.P),(Below.heap_setCell _ ⟨g,k*2+1,none⟩ _ _ hZg).trans ((Below.heap_setCell _ ⟨g,k*2,none⟩ _ _ hZg).trans C5.out.Z),(Below.heap_setCell _ ⟨g,k*2+1,none⟩ _ _ hBg).trans ((Below.heap_setCell _ ⟨g,k*2,none⟩ _ _ hBg).trans C5.out.X),C5.out.O.capSet k hlt sec n,(C5.out.L.setCell (p:=⟨g,k*2,none⟩) hg0 (.string sec)).setCell (p:=⟨g,k*2+1,none⟩) hg0 (.int .i64 n),C5.out.hB⟩
     clear hx hxs yx y0' hys hm
     go_upto_region 9 with (fail)
     clear xa k0_ k1_ y0 y1 yf0 yf1 e1 C5
     obtain ⟨wz,hwz⟩:∃ V,V=((wd.setCell ⟨g,k*2,none⟩ (.string sec)).setCell ⟨g,k*2+1,none⟩ (.int .i64 n)):=⟨_,rfl⟩
     rw [← hwz] at C7 ⊢
     clear hwz
     have HLS:Hid ((b.f0.set k ⟨sec,n⟩).length=b.f0.length):=List.length_set ..
     have xa:=(blk_cell C7.out.X 0).trans rfl
     have xb:=(blk_cell C7.out.X 1).trans rfl
     have xc:=(blk_cell C7.out.X 2).trans rfl
     have HNB:Hid ((⟨capIn b.f0 sec n,b.f1,b.f2⟩:Book)=⟨b.f0.set k ⟨sec,n⟩,b.f1,b.f2⟩):=by show _=_;rw [HSET.out]
     have hcaps:=(Kd.R_reads' C7.out.O.caps).2.2
     have qb:=spec_bookOk_any (some ⟨g,0,none⟩) cX (⟨b.f0.set k ⟨sec,n⟩,b.f1,b.f2⟩:Book).f0 CX dX b.f1 DX eX b.f2 wz hcaps (Kd.S_reads' C7.out.O.flights).2.2 (Kd.R_reads' C7.out.O.slots).2.2
     dsimp only at qb
     rw [HLS.out] at qb
     have QB:=Lib.hid qb
     clear qb
     go_wp2_with (fail)
     refine QB.out.mono ?_
     rintro e w9 ⟨rfl,hb9⟩
     have C9:=Lib.hid (C7.out.below hb9)
     clear hb9 xa xb xc hcaps QB C7
     obtain ⟨ok_,hok_⟩:∃ x,x=fitsB (⟨b.f0.set k ⟨sec,n⟩,b.f1,b.f2⟩:Book).f0 b.f1 b.f2:=⟨_,rfl⟩
     have HOK:=Lib.hid hok_
     rw [← hok_]
     clear hok_
     have cz0:=(blk_cell C9.out.Z 0).trans rfl
     have fz0:=blk_frozen C9.out.Z 0
     have cz1:=(blk_cell C9.out.Z 1).trans rfl
     have fz1:=blk_frozen C9.out.Z 1
     have cz2:=(blk_cell C9.out.Z 2).trans rfl
     have fz2:=blk_frozen C9.out.Z 2
     cases ok_ with
     | false =>
      have cb0:=(blk_cell C9.out.P 0).trans rfl
      have cb1:=(blk_cell C9.out.P 1).trans rfl
      have cb2:=(blk_cell C9.out.P 2).trans rfl
      have ZW:=Lib.hid (blk_set (blk_set (blk_set C9.out.Z 0 (.slice A0 b.f0.length c0)) 1 (.slice A1 b.f1.length c1)) 2 (.slice A2 b.f2.length c2))
      have RW:=Lib.hid ((HR.out.below C9.out.L).cell3 C9.out.Z (.slice A0 b.f0.length c0) (.slice A1 b.f1.length c1) (.slice A2 b.f2.length c2))
      have LW:=Lib.hid (((C9.out.L.setCell (p:=⟨w.heap.size+1,0,none⟩) (Nat.le_succ _) (.slice A0 b.f0.length c0)).setCell (p:=⟨w.heap.size+1,1,none⟩) (Nat.le_succ _) (.slice A1 b.f1.length c1)).setCell (p:=⟨w.heap.size+1,2,none⟩) (Nat.le_succ _) (.slice A2 b.f2.length c2))
      have HCR:Hid (capR b sec n=(b,tNo)):=by
       show _=_
       unfold capR
       rw [HNB.out,if_neg (by show ¬ fitsB (⟨b.f0.set k ⟨sec,n⟩,b.f1,b.f2⟩:Book).f0 b.f1 b.f2=true;rw [← HOK.out];decide)]
      go_wp2
      refine bodyPost_ret (results_ct rfl _ _ (w.heap.size+1) 33 #[(.slice A0 b.f0.length c0),(.slice A1 b.f1.length c1),(.slice A2 b.f2.length c2)] (0,0) _ rfl ZW.out Tryz.underlying33 rfl (by kernel_rfl)) rfl ?_
      rw [HCR.out]
      exact ⟨_,_,_,rfl,RW.out,LW.out⟩
     | true =>
      have cb0:=(blk_cell C9.out.X 0).trans rfl
      have cb1:=(blk_cell C9.out.X 1).trans rfl
      have cb2:=(blk_cell C9.out.X 2).trans rfl
      have ZW:=Lib.hid (blk_set (blk_set (blk_set C9.out.Z 0 (.slice (some ⟨g,0,none⟩) b.f0.length cX)) 1 (.slice CX b.f1.length dX)) 2 (.slice DX b.f2.length eX))
      have RW:=Lib.hid ((C9.out.O.rd.lower (base':=base) hbase).cell3 C9.out.Z (.slice (some ⟨g,0,none⟩) b.f0.length cX) (.slice CX b.f1.length dX) (.slice DX b.f2.length eX))
      have LW:=Lib.hid (((C9.out.L.setCell (p:=⟨w.heap.size+1,0,none⟩) (Nat.le_succ _) (.slice (some ⟨g,0,none⟩) b.f0.length cX)).setCell (p:=⟨w.heap.size+1,1,none⟩) (Nat.le_succ _) (.slice CX b.f1.length dX)).setCell (p:=⟨w.heap.size+1,2,none⟩) (Nat.le_succ _) (.slice DX b.f2.length eX))
      have HCR:Hid (capR b sec n=(⟨b.f0.set k ⟨sec,n⟩,b.f1,b.f2⟩,tOk)):=by
       show _=_
       unfold capR
       rw [HNB.out,if_pos (show okB ⟨b.f0.set k ⟨sec,n⟩,b.f1,b.f2⟩=true from HOK.out.symm)]
      go_wp2
      refine bodyPost_ret (results_ct rfl _ _ (w.heap.size+1) 33 #[(.slice (some ⟨g,0,none⟩) b.f0.length cX),(.slice CX b.f1.length dX),(.slice DX b.f2.length eX)] (0,0) _ rfl ZW.out Tryz.underlying33 rfl (by kernel_rfl)) rfl ?_
      rw [HCR.out]
      exact ⟨_,_,_,rfl,RW.out,LW.out⟩
    have HINS:Hid (capIn b.f0 sec n=insAt k ⟨sec,n⟩ b.f0):=by have:=capIn_ins (l:=b.f0) (n:=sec) (t:=n) (by rw [HK.out];exact hm);rw [HK.out] at this;exact this
    have hd2:=(Kd.R_reads' C5.out.O.caps).2.1
    have HT:=Lib.hid (C_takeA (Kd.R_reads' C5.out.O.caps).2.2 hk)
    have hdr:=C_dropB (Kd.R_reads' C5.out.O.caps).2.2 hk hd2
    obtain ⟨A75,h75⟩:∃ A,(if cX=k then AX else Option.map (fun x=>x.add (k*2)) AX)=A:=⟨_,rfl⟩
    have HD:Hid (Kd.C k80 wd A75 (b.f0.length-k) (b.f0.drop k)):=by rw [← h75];exact hdr
    clear hdr
    have b3:Hid (w.heap.size≤wd.heap.size):=C5.out.L.size
    have t1:(k:Int)≤(cX:Int):=by omega
    have t4:(k:Int)≤(b.f0.length:Int):=by omega
    have s0_:=(blk_cell T5.out 0).trans rfl
    have s1_:=(blk_cell T5.out 1).trans rfl
    have hS0:Hid (wd.cell? ⟨B,0,none⟩=some (.slice AX b.f0.length cX)∧wd.cell? ⟨T,0,none⟩=some (.string sec)∧wd.cell? ⟨T,1,none⟩=some (.int .i64 n)):=⟨xa,s0_,s1_⟩
    have KS:Hid (∀ V,Below wd.heap.size wd V→V.cell? ⟨B,0,none⟩=some (.slice AX b.f0.length cX)∧V.cell? ⟨T,0,none⟩=some (.string sec)∧V.cell? ⟨T,1,none⟩=some (.int .i64 n)):=fun V h=>⟨pw_cell_below h hS0.out.1,pw_cell_below h hS0.out.2.1,pw_cell_below h hS0.out.2.2⟩
    clear hS0 s0_ s1_
    have he6:Hid (∀ (hlt:k<b.f0.length),¬ (b.f0[k]'hlt).f0=sec):=fun hlt he=>hm (by rw [List.getElem?_eq_getElem hlt];exact congrArg some he)
    clear hm
    go_cut [47] (fun s47 wy=>s47 = .bool false∧wy=wd)
    case first =>
     by_cases hlt:k<b.f0.length
     ·have j1:(k:Int)<(b.f0.length:Int):=by omega
      obtain ⟨ad,g,rfl,hg,g0,g1⟩:=capAt (Kd.R_reads' C5.out.O.caps).2.2 k hlt
      have e1:=str_other (show ¬ g.f0=sec from fun e=>he6.out hlt (by rw [List.getElem?_eq_getElem hlt] at hg;rw [Option.some.inj hg];exact e))
      clear hg
      go_wp2_with (fail)
      go_meet
      exact ⟨rfl,rfl⟩
     ·have j1:¬ (k:Int)<(b.f0.length:Int):=by omega
      go_wp2_with (fail)
      go_meet
      exact ⟨rfl,rfl⟩
    case rest =>
     obtain ⟨rfl,hwy⟩:=hcut
     rw [hwy]
     clear hwy xa
     go_upto_region 8 with (fail)
     go_cut [66] (fun s66 wx=>∃ (A76:Option Addr) (c76:Nat),Hid (CapW w wx B (.slice A0 b.f0.length c0) (.slice A1 b.f1.length c1) (.slice A2 b.f2.length c2) (.slice A76 (insAt k ⟨sec,n⟩ b.f0).length c76) (.slice CX b.f1.length dX) (.slice DX b.f2.length eX) ⟨insAt k ⟨sec,n⟩ b.f0,b.f1,b.f2⟩))
     case first =>
      refine start_ (n:=16) (S:=fun w'=>w'.cell? ⟨B,0,none⟩=some (.slice AX b.f0.length cX)∧w'.cell? ⟨T,0,none⟩=some (.string sec)∧w'.cell? ⟨T,1,none⟩=some (.int .i64 n)) (ds:=[15]) #[false,false,false,false,false,false,false,false,false,false,false,false,false,false,false,false] (by kernel_rfl) rfl rfl (KS.out _ (pw_below_drewN (Below.refl _ _) 1)) (fun hHeld => ?_)
      refine pureA 1 (h := ?_)
      refine pureA 3 (h := ?_)
      refine pureA 9 (h := ?_)
      refine pureA 11 (h := ?_)
      refine takeA 2 hHeld (h := ?_)
      refine takeA 10 hHeld (h := ?_)
      refine takeA 6 hHeld (h := ?_)
      refine pureA 4 (h := ?_)
      refine pureA 12 (h := ?_)
      have b0:Hid (Below wd.heap.size wd wd.drew):=pw_below_drewN (Below.refl _ _) 1
      generalize wd.drew=V0 at hHeld b0 ⊢
      refine twoA 0 7 (h1:=fun K hK => ?_) (h2:=fun K hK => ?_)
      ·go_simp
       refine hK.out _ _ (KS.out _ (below_alloc b0.out _)) (fun hHeld => ?_)
       clear hK K
       have bb1:Hid (Below wd.heap.size wd (V0.alloc (.cells #[] 80))):=below_alloc b0.out _
       have hs1:Hid ((V0.alloc (.cells #[] 80)).heap.size=V0.heap.size+1):=(by show _=_;simp)
       have h1:Hid (Kd.R k80 80 (V0.alloc (.cells #[] 80)) w.heap.size (fun _=>True) (.slice (some ⟨V0.heap.size,0,none⟩) 0 0) []):=Kd.R_lower (R_madeF k80 V0 80 (by decide)) (Nat.le_trans b3.out b0.out.size)
       have n1:Hid (∀ j,(Value.slice (some ⟨V0.heap.size,0,none⟩) 0 0).ownBlock=some j→wd.heap.size≤j):=fun j hj=>by have:=own_at hj;have:=b0.out.size;omega
       obtain ⟨V1,hV1⟩:∃ V,V=V0.alloc (.cells #[] 80):=⟨_,rfl⟩
       rw [← hV1] at bb1 hHeld hs1 h1 ⊢
       clear hV1
       refine twoA 5 7 (h1:=fun K hK => ?_) (h2:=fun K hK => ?_)
       ·refine Kd.R_append_rows_step k80 (w0:=wd) w.heap.size (by rfl) (.tmp 53) (.tmp 57) 29 80 (.agg #[.string ByteArray.empty, .int .i64 0]) 24 (by rfl) Tryz.underlying29 infoCap rfl (by decide) (by decide) (.slice (some ⟨V0.heap.size,0,none⟩) 0 0) [] (b.f0.take k) AX k cX (fun _=>True) (fun _=>False) (by rfl) (by rfl) h1.out (Kd.C_below HT.out bb1.out) (fun x cs h=>by rw [k80_open h];exact k80_mkM _ _ _ x) (fun _ h=>h.elim) (fun _ _=>trivial) (bb1.out.mono b3.out) (Nat.le_trans b3.out bb1.out.size) (by have:=HK8.out;simp;omega) ?_
        intro v3 V3 ho hb hg hat
        rw [List.nil_append] at ho
        obtain ⟨A3_,c3_,rfl⟩:=Kd.R_slice ho
        rw [lenT hk] at ho hat ⊢
        have bb3:Hid (Below wd.heap.size wd V3):=bb1.out.grown hg bb1.out.size (fun q hq=>n1.out q hq)
        have n3:Hid (∀ j,(Value.slice A3_ k c3_).ownBlock=some j→wd.heap.size≤j):=own_next hat (fun j hj=>n1.out j hj) bb1.out.size
        have h3:=Lib.hid ho
        clear ho hb hg hat
        refine hK.out _ _ (KS.out _ bb3.out) (fun hHeld => ?_)
        clear hK K
        refine oneA 7 (h:=fun K hK => ?_)
        go_simp
        refine hK.out _ _ (KS.out _ (below_alloc bb3.out _)) (fun hHeld => ?_)
        clear hK K
        have bb5:Hid (Below wd.heap.size wd (V3.alloc (.cells #[.string sec, .int .i64 n] 80))):=below_alloc bb3.out _
        have hs5:Hid ((V3.alloc (.cells #[.string sec, .int .i64 n] 80)).heap.size=V3.heap.size+1):=(by show _=_;simp)
        have c5:=Lib.hid (blk_new V3 (.cells #[.string sec, .int .i64 n] 80))
        have h5:=Lib.hid (Kd.R_alloc h3.out (.cells #[.string sec, .int .i64 n] 80))
        obtain ⟨V5,hV5⟩:∃ V,V=V3.alloc (.cells #[.string sec, .int .i64 n] 80):=⟨_,rfl⟩
        rw [← hV5] at bb5 hHeld hs5 c5 h5 ⊢
        clear hV5
        refine oneA 8 (h:=fun K hK => ?_)
        refine Kd.R_append_rows_step k80 (w0:=wd) w.heap.size (by rfl) (.tmp 58) (.tmp 60) 29 80 (.agg #[.string ByteArray.empty, .int .i64 0]) 24 (by rfl) Tryz.underlying29 infoCap rfl (by decide) (by decide) (.slice A3_ k c3_) (b.f0.take k) [(⟨sec,n⟩:Cap)] (some ⟨V3.heap.size,0,none⟩) 1 1 (fun _=>True) (fun _=>False) (by rfl) (by rfl) h5.out (C_oneC c5.out) (fun x cs h=>by rw [k80_open h];exact k80_mkM _ _ _ x) (fun _ h=>h.elim) (fun _ _=>trivial) (bb5.out.mono b3.out) (Nat.le_trans b3.out bb5.out.size) (by rw [lenT hk];have:=HK8.out;omega) ?_
        intro v6 V6 ho hb hg hat
        obtain ⟨A6_,c6_,rfl⟩:=Kd.R_slice ho
        rw [show (b.f0.take k++[(⟨sec,n⟩:Cap)]).length=k+1 by rw [List.length_append,lenT hk];rfl] at ho hat ⊢
        have bb6:Hid (Below wd.heap.size wd V6):=bb5.out.grown hg bb5.out.size (fun q hq=>n3.out q hq)
        have n6:Hid (∀ j,(Value.slice A6_ (k+1) c6_).ownBlock=some j→wd.heap.size≤j):=own_next hat (fun j hj=>n3.out j hj) bb5.out.size
        have h6:=Lib.hid ho
        clear ho hb hg hat
        refine hK.out _ _ (KS.out _ bb6.out) (fun hHeld => ?_)
        clear hK K
        refine oneA 13 (h:=fun K hK => ?_)
        refine Kd.R_append_rows_step k80 (w0:=wd) w.heap.size (by rfl) (.tmp 61) (.tmp 65) 29 80 (.agg #[.string ByteArray.empty, .int .i64 0]) 24 (by rfl) Tryz.underlying29 infoCap rfl (by decide) (by decide) (.slice A6_ (k+1) c6_) (b.f0.take k++[⟨sec,n⟩]) (b.f0.drop k) A75 (b.f0.length-k) (cX-k) (fun _=>True) (fun _=>False) (by rfl) (by rfl) h6.out (Kd.C_below HD.out bb6.out) (fun x cs h=>by rw [k80_open h];exact k80_mkM _ _ _ x) (fun _ h=>h.elim) (fun _ _=>trivial) (bb6.out.mono b3.out) (Nat.le_trans b3.out bb6.out.size) (by rw [List.length_append,lenT hk];have:=HK8.out;simp;omega) ?_
        intro v7 V7 ho hb hg hat
        obtain ⟨A7_,c7_,rfl⟩:=Kd.R_slice ho
        rw [show (b.f0.take k++[(⟨sec,n⟩:Cap)]++b.f0.drop k).length=(insAt k ⟨sec,n⟩ b.f0).length from rfl] at ho hat ⊢
        have bb7:Hid (Below wd.heap.size wd V7):=bb6.out.grown hg bb6.out.size (fun q hq=>n6.out q hq)
        have n7:Hid (∀ j,(Value.slice A7_ (insAt k ⟨sec,n⟩ b.f0).length c7_).ownBlock=some j→wd.heap.size≤j):=own_next hat (fun j hj=>n6.out j hj) bb6.out.size
        have h7:=Lib.hid ho
        clear ho hb hg hat
        refine hK.out _ _ (KS.out _ bb7.out) (fun hHeld => ?_)
        clear hK K
        have p0_:=blk_frozen (blk_below C5.out.X bb7.out) 0
        refine pureA 14 (h := ?_)
        refine lastA 15 (h:=fun K hK => ?_)
        go_simp
        refine hK.out _ _ ?_
        clear hK K
        refine doneA (h := ?_)
        go_wp2_with (fail)
        go_meet
        exact ⟨A7_,c7_,blk_far (blk_below C5.out.P bb7.out) (p:=⟨B,0,none⟩) (by have:=C5.out.hB;simp;omega) _,blk_far (blk_below C5.out.Z bb7.out) (p:=⟨B,0,none⟩) (by have:=C5.out.hB;simp;omega) _,blk_set (blk_below C5.out.X bb7.out) 0 _,(show OwnB V7 w.heap.size _ _ _ ⟨insAt k ⟨sec,n⟩ b.f0,b.f1,b.f2⟩ from ⟨h7.out,Kd.S_below C5.out.O.flights bb7.out,Kd.R_below C5.out.O.slots bb7.out⟩).cell (blk_below C5.out.X bb7.out) 0 _,(below_next C5.out.L C5.out.L.size bb7.out).setCell (p:=⟨B,0,none⟩) (by have:=C5.out.hB;show w.heap.size≤B;omega) _,C5.out.hB⟩
       ·go_simp
        refine hK.out _ _ (KS.out _ (below_alloc bb1.out _)) (fun hHeld => ?_)
        clear hK K
        have bb4:Hid (Below wd.heap.size wd (V1.alloc (.cells #[.string sec, .int .i64 n] 80))):=below_alloc bb1.out _
        have hs4:Hid ((V1.alloc (.cells #[.string sec, .int .i64 n] 80)).heap.size=V1.heap.size+1):=(by show _=_;simp)
        have c4:=Lib.hid (blk_new V1 (.cells #[.string sec, .int .i64 n] 80))
        have h4:=Lib.hid (Kd.R_alloc h1.out (.cells #[.string sec, .int .i64 n] 80))
        obtain ⟨V4,hV4⟩:∃ V,V=V1.alloc (.cells #[.string sec, .int .i64 n] 80):=⟨_,rfl⟩
        rw [← hV4] at bb4 hHeld hs4 c4 h4 ⊢
        clear hV4
        refine oneA 5 (h:=fun K hK => ?_)
        refine Kd.R_append_rows_step k80 (w0:=wd) w.heap.size (by rfl) (.tmp 53) (.tmp 57) 29 80 (.agg #[.string ByteArray.empty, .int .i64 0]) 24 (by rfl) Tryz.underlying29 infoCap rfl (by decide) (by decide) (.slice (some ⟨V0.heap.size,0,none⟩) 0 0) [] (b.f0.take k) AX k cX (fun _=>True) (fun _=>False) (by rfl) (by rfl) h4.out (Kd.C_below HT.out bb4.out) (fun x cs h=>by rw [k80_open h];exact k80_mkM _ _ _ x) (fun _ h=>h.elim) (fun _ _=>trivial) (bb4.out.mono b3.out) (Nat.le_trans b3.out bb4.out.size) (by have:=HK8.out;simp;omega) ?_
        intro v8 V8 ho hb hg hat
        rw [List.nil_append] at ho
        obtain ⟨A8_,c8_,rfl⟩:=Kd.R_slice ho
        rw [lenT hk] at ho hat ⊢
        have bb8:Hid (Below wd.heap.size wd V8):=bb4.out.grown hg bb4.out.size (fun q hq=>n1.out q hq)
        have n8:Hid (∀ j,(Value.slice A8_ k c8_).ownBlock=some j→wd.heap.size≤j):=own_next hat (fun j hj=>n1.out j hj) bb4.out.size
        have c8:=Lib.hid (blk_grown c4.out hg (fun e=>by have h_:V0.heap.size=V1.heap.size:=own_at e.symm;have:=hs1.out;have:=hs4.out;omega))
        have h8:=Lib.hid ho
        clear ho hb hg hat
        refine hK.out _ _ (KS.out _ bb8.out) (fun hHeld => ?_)
        clear hK K
        refine oneA 8 (h:=fun K hK => ?_)
        refine Kd.R_append_rows_step k80 (w0:=wd) w.heap.size (by rfl) (.tmp 58) (.tmp 60) 29 80 (.agg #[.string ByteArray.empty, .int .i64 0]) 24 (by rfl) Tryz.underlying29 infoCap rfl (by decide) (by decide) (.slice A8_ k c8_) (b.f0.take k) [(⟨sec,n⟩:Cap)] (some ⟨V1.heap.size,0,none⟩) 1 1 (fun _=>True) (fun _=>False) (by rfl) (by rfl) h8.out (C_oneC c8.out) (fun x cs h=>by rw [k80_open h];exact k80_mkM _ _ _ x) (fun _ h=>h.elim) (fun _ _=>trivial) (bb8.out.mono b3.out) (Nat.le_trans b3.out bb8.out.size) (by rw [lenT hk];have:=HK8.out;omega) ?_
        intro v9 V9 ho hb hg hat
        obtain ⟨A9_,c9_,rfl⟩:=Kd.R_slice ho
        rw [show (b.f0.take k++[(⟨sec,n⟩:Cap)]).length=k+1 by rw [List.length_append,lenT hk];rfl] at ho hat ⊢
        have bb9:Hid (Below wd.heap.size wd V9):=bb8.out.grown hg bb8.out.size (fun q hq=>n8.out q hq)
        have n9:Hid (∀ j,(Value.slice A9_ (k+1) c9_).ownBlock=some j→wd.heap.size≤j):=own_next hat (fun j hj=>n8.out j hj) bb8.out.size
        have h9:=Lib.hid ho
        clear ho hb hg hat
        refine hK.out _ _ (KS.out _ bb9.out) (fun hHeld => ?_)
        clear hK K
        refine oneA 13 (h:=fun K hK => ?_)
        refine Kd.R_append_rows_step k80 (w0:=wd) w.heap.size (by rfl) (.tmp 61) (.tmp 65) 29 80 (.agg #[.string ByteArray.empty, .int .i64 0]) 24 (by rfl) Tryz.underlying29 infoCap rfl (by decide) (by decide) (.slice A9_ (k+1) c9_) (b.f0.take k++[⟨sec,n⟩]) (b.f0.drop k) A75 (b.f0.length-k) (cX-k) (fun _=>True) (fun _=>False) (by rfl) (by rfl) h9.out (Kd.C_below HD.out bb9.out) (fun x cs h=>by rw [k80_open h];exact k80_mkM _ _ _ x) (fun _ h=>h.elim) (fun _ _=>trivial) (bb9.out.mono b3.out) (Nat.le_trans b3.out bb9.out.size) (by rw [List.length_append,lenT hk];have:=HK8.out;simp;omega) ?_
        intro v10 V10 ho hb hg hat
        obtain ⟨A10_,c10_,rfl⟩:=Kd.R_slice ho
        rw [show (b.f0.take k++[(⟨sec,n⟩:Cap)]++b.f0.drop k).length=(insAt k ⟨sec,n⟩ b.f0).length from rfl] at ho hat ⊢
        have bb10:Hid (Below wd.heap.size wd V10):=bb9.out.grown hg bb9.out.size (fun q hq=>n9.out q hq)
        have n10:Hid (∀ j,(Value.slice A10_ (insAt k ⟨sec,n⟩ b.f0).length c10_).ownBlock=some j→wd.heap.size≤j):=own_next hat (fun j hj=>n9.out j hj) bb9.out.size
        have h10:=Lib.hid ho
        clear ho hb hg hat
        refine hK.out _ _ (KS.out _ bb10.out) (fun hHeld => ?_)
        clear hK K
        have p0_:=blk_frozen (blk_below C5.out.X bb10.out) 0
        refine pureA 14 (h := ?_)
        refine lastA 15 (h:=fun K hK => ?_)
        go_simp
        refine hK.out _ _ ?_
        clear hK K
        refine doneA (h := ?_)
        go_wp2_with (fail)
        go_meet
        exact ⟨A10_,c10_,blk_far (blk_below C5.out.P bb10.out) (p:=⟨B,0,none⟩) (by have:=C5.out.hB;simp;omega) _,blk_far (blk_below C5.out.Z bb10.out) (p:=⟨B,0,none⟩) (by have:=C5.out.hB;simp;omega) _,blk_set (blk_below C5.out.X bb10.out) 0 _,(show OwnB V10 w.heap.size _ _ _ ⟨insAt k ⟨sec,n⟩ b.f0,b.f1,b.f2⟩ from ⟨h10.out,Kd.S_below C5.out.O.flights bb10.out,Kd.R_below C5.out.O.slots bb10.out⟩).cell (blk_below C5.out.X bb10.out) 0 _,(below_next C5.out.L C5.out.L.size bb10.out).setCell (p:=⟨B,0,none⟩) (by have:=C5.out.hB;show w.heap.size≤B;omega) _,C5.out.hB⟩
      ·go_simp
       refine hK.out _ _ (KS.out _ (below_alloc b0.out _)) (fun hHeld => ?_)
       clear hK K
       have bb2:Hid (Below wd.heap.size wd (V0.alloc (.cells #[.string sec, .int .i64 n] 80))):=below_alloc b0.out _
       have hs2:Hid ((V0.alloc (.cells #[.string sec, .int .i64 n] 80)).heap.size=V0.heap.size+1):=(by show _=_;simp)
       have c2:=Lib.hid (blk_new V0 (.cells #[.string sec, .int .i64 n] 80))
       obtain ⟨V2,hV2⟩:∃ V,V=V0.alloc (.cells #[.string sec, .int .i64 n] 80):=⟨_,rfl⟩
       rw [← hV2] at bb2 hHeld hs2 c2 ⊢
       clear hV2
       refine oneA 0 (h:=fun K hK => ?_)
       go_simp
       refine hK.out _ _ (KS.out _ (below_alloc bb2.out _)) (fun hHeld => ?_)
       clear hK K
       have bb11:Hid (Below wd.heap.size wd (V2.alloc (.cells #[] 80))):=below_alloc bb2.out _
       have hs11:Hid ((V2.alloc (.cells #[] 80)).heap.size=V2.heap.size+1):=(by show _=_;simp)
       have h11:Hid (Kd.R k80 80 (V2.alloc (.cells #[] 80)) w.heap.size (fun _=>True) (.slice (some ⟨V2.heap.size,0,none⟩) 0 0) []):=Kd.R_lower (R_madeF k80 V2 80 (by decide)) (Nat.le_trans b3.out bb2.out.size)
       have n11:Hid (∀ j,(Value.slice (some ⟨V2.heap.size,0,none⟩) 0 0).ownBlock=some j→wd.heap.size≤j):=fun j hj=>by have:=own_at hj;have:=bb2.out.size;omega
       have c11:=Lib.hid (blk_alloc c2.out (.cells #[] 80))
       obtain ⟨V11,hV11⟩:∃ V,V=V2.alloc (.cells #[] 80):=⟨_,rfl⟩
       rw [← hV11] at bb11 hHeld hs11 h11 c11 ⊢
       clear hV11
       refine oneA 5 (h:=fun K hK => ?_)
       refine Kd.R_append_rows_step k80 (w0:=wd) w.heap.size (by rfl) (.tmp 53) (.tmp 57) 29 80 (.agg #[.string ByteArray.empty, .int .i64 0]) 24 (by rfl) Tryz.underlying29 infoCap rfl (by decide) (by decide) (.slice (some ⟨V2.heap.size,0,none⟩) 0 0) [] (b.f0.take k) AX k cX (fun _=>True) (fun _=>False) (by rfl) (by rfl) h11.out (Kd.C_below HT.out bb11.out) (fun x cs h=>by rw [k80_open h];exact k80_mkM _ _ _ x) (fun _ h=>h.elim) (fun _ _=>trivial) (bb11.out.mono b3.out) (Nat.le_trans b3.out bb11.out.size) (by have:=HK8.out;simp;omega) ?_
       intro v12 V12 ho hb hg hat
       rw [List.nil_append] at ho
       obtain ⟨A12_,c12_,rfl⟩:=Kd.R_slice ho
       rw [lenT hk] at ho hat ⊢
       have bb12:Hid (Below wd.heap.size wd V12):=bb11.out.grown hg bb11.out.size (fun q hq=>n11.out q hq)
       have n12:Hid (∀ j,(Value.slice A12_ k c12_).ownBlock=some j→wd.heap.size≤j):=own_next hat (fun j hj=>n11.out j hj) bb11.out.size
       have c12:=Lib.hid (blk_grown c11.out hg (fun e=>by have h_:V2.heap.size=V0.heap.size:=own_at e.symm;have:=hs2.out;have:=hs11.out;omega))
       have h12:=Lib.hid ho
       clear ho hb hg hat
       refine hK.out _ _ (KS.out _ bb12.out) (fun hHeld => ?_)
       clear hK K
       refine oneA 8 (h:=fun K hK => ?_)
       refine Kd.R_append_rows_step k80 (w0:=wd) w.heap.size (by rfl) (.tmp 58) (.tmp 60) 29 80 (.agg #[.string ByteArray.empty, .int .i64 0]) 24 (by rfl) Tryz.underlying29 infoCap rfl (by decide) (by decide) (.slice A12_ k c12_) (b.f0.take k) [(⟨sec,n⟩:Cap)] (some ⟨V0.heap.size,0,none⟩) 1 1 (fun _=>True) (fun _=>False) (by rfl) (by rfl) h12.out (C_oneC c12.out) (fun x cs h=>by rw [k80_open h];exact k80_mkM _ _ _ x) (fun _ h=>h.elim) (fun _ _=>trivial) (bb12.out.mono b3.out) (Nat.le_trans b3.out bb12.out.size) (by rw [lenT hk];have:=HK8.out;omega) ?_
       intro v13 V13 ho hb hg hat
       obtain ⟨A13_,c13_,rfl⟩:=Kd.R_slice ho
       rw [show (b.f0.take k++[(⟨sec,n⟩:Cap)]).length=k+1 by rw [List.length_append,lenT hk];rfl] at ho hat ⊢
       have bb13:Hid (Below wd.heap.size wd V13):=bb12.out.grown hg bb12.out.size (fun q hq=>n12.out q hq)
       have n13:Hid (∀ j,(Value.slice A13_ (k+1) c13_).ownBlock=some j→wd.heap.size≤j):=own_next hat (fun j hj=>n12.out j hj) bb12.out.size
       have h13:=Lib.hid ho
       clear ho hb hg hat
       refine hK.out _ _ (KS.out _ bb13.out) (fun hHeld => ?_)
       clear hK K
       refine oneA 13 (h:=fun K hK => ?_)
       refine Kd.R_append_rows_step k80 (w0:=wd) w.heap.size (by rfl) (.tmp 61) (.tmp 65) 29 80 (.agg #[.string ByteArray.empty, .int .i64 0]) 24 (by rfl) Tryz.underlying29 infoCap rfl (by decide) (by decide) (.slice A13_ (k+1) c13_) (b.f0.take k++[⟨sec,n⟩]) (b.f0.drop k) A75 (b.f0.length-k) (cX-k) (fun _=>True) (fun _=>False) (by rfl) (by rfl) h13.out (Kd.C_below HD.out bb13.out) (fun x cs h=>by rw [k80_open h];exact k80_mkM _ _ _ x) (fun _ h=>h.elim) (fun _ _=>trivial) (bb13.out.mono b3.out) (Nat.le_trans b3.out bb13.out.size) (by rw [List.length_append,lenT hk];have:=HK8.out;simp;omega) ?_
       intro v14 V14 ho hb hg hat
       obtain ⟨A14_,c14_,rfl⟩:=Kd.R_slice ho
       rw [show (b.f0.take k++[(⟨sec,n⟩:Cap)]++b.f0.drop k).length=(insAt k ⟨sec,n⟩ b.f0).length from rfl] at ho hat ⊢
       have bb14:Hid (Below wd.heap.size wd V14):=bb13.out.grown hg bb13.out.size (fun q hq=>n13.out q hq)
       have n14:Hid (∀ j,(Value.slice A14_ (insAt k ⟨sec,n⟩ b.f0).length c14_).ownBlock=some j→wd.heap.size≤j):=own_next hat (fun j hj=>n13.out j hj) bb13.out.size
       have h14:=Lib.hid ho
       clear ho hb hg hat
       refine hK.out _ _ (KS.out _ bb14.out) (fun hHeld => ?_)
       clear hK K
       have p0_:=blk_frozen (blk_below C5.out.X bb14.out) 0
       refine pureA 14 (h := ?_)
       refine lastA 15 (h:=fun K hK => ?_)
       go_simp
       refine hK.out _ _ ?_
       clear hK K
       refine doneA (h := ?_)
       go_wp2_with (fail)
       go_meet
       exact ⟨A14_,c14_,blk_far (blk_below C5.out.P bb14.out) (p:=⟨B,0,none⟩) (by have:=C5.out.hB;simp;omega) _,blk_far (blk_below C5.out.Z bb14.out) (p:=⟨B,0,none⟩) (by have:=C5.out.hB;simp;omega) _,blk_set (blk_below C5.out.X bb14.out) 0 _,(show OwnB V14 w.heap.size _ _ _ ⟨insAt k ⟨sec,n⟩ b.f0,b.f1,b.f2⟩ from ⟨h14.out,Kd.S_below C5.out.O.flights bb14.out,Kd.R_below C5.out.O.slots bb14.out⟩).cell (blk_below C5.out.X bb14.out) 0 _,(below_next C5.out.L C5.out.L.size bb14.out).setCell (p:=⟨B,0,none⟩) (by have:=C5.out.hB;show w.heap.size≤B;omega) _,C5.out.hB⟩
     case rest =>
      obtain ⟨A76,c76,C8⟩:=hcut
      obtain ⟨wx_,rfl⟩:∃ wo:World,wo=wc:=⟨_,rfl⟩
      clear C5 HT HD b3 t1 t4 KS T5 he6
      have xa:=(blk_cell C8.out.X 0).trans rfl
      have xb:=(blk_cell C8.out.X 1).trans rfl
      have xc:=(blk_cell C8.out.X 2).trans rfl
      have HNB:Hid ((⟨capIn b.f0 sec n,b.f1,b.f2⟩:Book)=⟨insAt k ⟨sec,n⟩ b.f0,b.f1,b.f2⟩):=by show _=_;rw [HINS.out]
      have hcaps:=(Kd.R_reads' C8.out.O.caps).2.2
      have qb:=spec_bookOk_any A76 c76 (⟨insAt k ⟨sec,n⟩ b.f0,b.f1,b.f2⟩:Book).f0 CX dX b.f1 DX eX b.f2 wx_ hcaps (Kd.S_reads' C8.out.O.flights).2.2 (Kd.R_reads' C8.out.O.slots).2.2
      dsimp only at qb
      have QB:=Lib.hid qb
      clear qb
      go_wp2_with (fail)
      refine QB.out.mono ?_
      rintro e w9 ⟨rfl,hb9⟩
      have C9:=Lib.hid (C8.out.below hb9)
      clear hb9 xa xb xc hcaps QB C8
      obtain ⟨ok_,hok_⟩:∃ x,x=fitsB (⟨insAt k ⟨sec,n⟩ b.f0,b.f1,b.f2⟩:Book).f0 b.f1 b.f2:=⟨_,rfl⟩
      have HOK:=Lib.hid hok_
      rw [← hok_]
      clear hok_
      have cz0:=(blk_cell C9.out.Z 0).trans rfl
      have fz0:=blk_frozen C9.out.Z 0
      have cz1:=(blk_cell C9.out.Z 1).trans rfl
      have fz1:=blk_frozen C9.out.Z 1
      have cz2:=(blk_cell C9.out.Z 2).trans rfl
      have fz2:=blk_frozen C9.out.Z 2
      cases ok_ with
      | false =>
       have cb0:=(blk_cell C9.out.P 0).trans rfl
       have cb1:=(blk_cell C9.out.P 1).trans rfl
       have cb2:=(blk_cell C9.out.P 2).trans rfl
       have ZW:=Lib.hid (blk_set (blk_set (blk_set C9.out.Z 0 (.slice A0 b.f0.length c0)) 1 (.slice A1 b.f1.length c1)) 2 (.slice A2 b.f2.length c2))
       have RW:=Lib.hid ((HR.out.below C9.out.L).cell3 C9.out.Z (.slice A0 b.f0.length c0) (.slice A1 b.f1.length c1) (.slice A2 b.f2.length c2))
       have LW:=Lib.hid (((C9.out.L.setCell (p:=⟨w.heap.size+1,0,none⟩) (Nat.le_succ _) (.slice A0 b.f0.length c0)).setCell (p:=⟨w.heap.size+1,1,none⟩) (Nat.le_succ _) (.slice A1 b.f1.length c1)).setCell (p:=⟨w.heap.size+1,2,none⟩) (Nat.le_succ _) (.slice A2 b.f2.length c2))
       have HCR:Hid (capR b sec n=(b,tNo)):=by
        show _=_
        unfold capR
        rw [HNB.out,if_neg (by show ¬ fitsB (⟨insAt k ⟨sec,n⟩ b.f0,b.f1,b.f2⟩:Book).f0 b.f1 b.f2=true;rw [← HOK.out];decide)]
       go_wp2
       refine bodyPost_ret (results_ct rfl _ _ (w.heap.size+1) 33 #[(.slice A0 b.f0.length c0),(.slice A1 b.f1.length c1),(.slice A2 b.f2.length c2)] (0,0) _ rfl ZW.out Tryz.underlying33 rfl (by kernel_rfl)) rfl ?_
       rw [HCR.out]
       exact ⟨_,_,_,rfl,RW.out,LW.out⟩
      | true =>
       have cb0:=(blk_cell C9.out.X 0).trans rfl
       have cb1:=(blk_cell C9.out.X 1).trans rfl
       have cb2:=(blk_cell C9.out.X 2).trans rfl
       have ZW:=Lib.hid (blk_set (blk_set (blk_set C9.out.Z 0 (.slice A76 (insAt k (⟨sec,n⟩:Cap) b.f0).length c76)) 1 (.slice CX b.f1.length dX)) 2 (.slice DX b.f2.length eX))
       have RW:=Lib.hid ((C9.out.O.rd.lower (base':=base) hbase).cell3 C9.out.Z (.slice A76 (insAt k (⟨sec,n⟩:Cap) b.f0).length c76) (.slice CX b.f1.length dX) (.slice DX b.f2.length eX))
       have LW:=Lib.hid (((C9.out.L.setCell (p:=⟨w.heap.size+1,0,none⟩) (Nat.le_succ _) (.slice A76 (insAt k (⟨sec,n⟩:Cap) b.f0).length c76)).setCell (p:=⟨w.heap.size+1,1,none⟩) (Nat.le_succ _) (.slice CX b.f1.length dX)).setCell (p:=⟨w.heap.size+1,2,none⟩) (Nat.le_succ _) (.slice DX b.f2.length eX))
       have HCR:Hid (capR b sec n=(⟨insAt k ⟨sec,n⟩ b.f0,b.f1,b.f2⟩,tOk)):=by
        show _=_
        unfold capR
        rw [HNB.out,if_pos (show okB ⟨insAt k ⟨sec,n⟩ b.f0,b.f1,b.f2⟩=true from HOK.out.symm)]
       go_wp2
       refine bodyPost_ret (results_ct rfl _ _ (w.heap.size+1) 33 #[(.slice A76 (insAt k (⟨sec,n⟩:Cap) b.f0).length c76),(.slice CX b.f1.length dX),(.slice DX b.f2.length eX)] (0,0) _ rfl ZW.out Tryz.underlying33 rfl (by kernel_rfl)) rfl ?_
       rw [HCR.out]
       exact ⟨_,_,_,rfl,RW.out,LW.out⟩
end Go.Proofs.YthcpbojmalgdbaaGreatDoor.Q
