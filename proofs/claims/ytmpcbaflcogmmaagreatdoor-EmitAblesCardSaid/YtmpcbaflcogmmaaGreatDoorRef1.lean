/- Emit6t Ref1 -/
import Derived.Test.YtmpcbaflcogmmaaGreatDoorEmit9
import Derived.Test.YtmpcbaflcogmmaaGreatDoorRef0
namespace Go.Proofs.YtmpcbaflcogmmaaGreatDoor
open Go.RowKit
set_option linter.all false
set_option maxHeartbeats 1600000
set_option maxRecDepth 100000
section
variable (w0:World) (B kb:Nat) (tv im tm mb:Value) (ts:List Au) (rec:Nat→MS→MS) (hgr:Do rec) (i:Nat) (x:Au) (hr:∀ j∈Am ts i,E6 w0 B kb tv im tm mb rec j) (hkl:(Am ts i).length≤100000)
include hgr hr hkl
theorem V4:BH w0 B kb tv im tm mb ts (fun s=>Bw rec (Am ts i) s) i x 144 #[]:=by
 intro s w A n c base hb0 h0 ho0 hm
 obtain⟨wl0,HW,S0,HO,F0,KN⟩:=CE x hb0 h0 ho0
 obtain⟨s1,HS1,m1⟩:=sL hgr (Am ts i) s
 have hF:(fun s=>Bw rec (Am ts i) s) s=s1:=by
  rw [HS1.out]
 rw [hF] at hm ⊢
 obtain⟨HR,HKL,HGR⟩:=Hd3 hr hkl hgr
 clear hr hkl hgr hb0 h0 ho0 hF
 go_in
 have nc1_2:=S0.cell (.int .i64 x.n) 2 KN rfl
 go_wp2_with fail
 rw [← HW.out]
 refine (S0.nodes HGR HKL HR HO HS1 (by omega)).mono ?_
 rintro e wl1 ⟨rfl,S1,f⟩
 go_wp2_with fail
 go_end0
 exact ⟨rfl,S1.k,F0.trans S1.f⟩
omit hgr hr hkl in
theorem V3 (pi:Int→Option Int) (hp:DR w0 B im pi) (hpb:∀ n v,pi n=some v→0≤v∧v≤10000000):BH w0 B kb tv im tm mb ts (fun s=>Dn (pi x.n) s) i x 146 #[]:=by
 intro s w A n c base hb0 h0 ho0 hm
 obtain⟨wl0,HW,S0,HO,F0,KN⟩:=CE x hb0 h0 ho0
 obtain⟨s1,HS1,m1⟩:=sP (pi x.n) s
 have hF:(fun s=>Dn (pi x.n) s) s=s1:=by
  rw [HS1.out]
 rw [hF] at hm ⊢
 obtain⟨HP,HPB⟩:=Hd2 hp hpb
 clear hp hpb hb0 h0 ho0 hF
 go_in
 have nc1_2:=S0.cell (.int .i64 x.n) 2 KN rfl
 go_wp2_with fail
 rw [← HW.out]
 refine (S0.push HP HPB (x.n) HS1 (by omega)).mono ?_
 rintro e wl1 ⟨rfl,S1,f⟩
 go_wp2_with fail
 go_end0
 exact ⟨rfl,S1.k,F0.trans S1.f⟩
omit hgr hr hkl in
theorem V1:BH w0 B kb tv im tm mb ts (fun s=>opE 4 [u8 x.n] s) i x 148 #[]:=by
 intro s w A n c base hb0 h0 ho0 hm
 obtain⟨wl0,HW,S0,HO,F0,KN⟩:=CE x hb0 h0 ho0
 obtain⟨s1,HS1,m1⟩:=sI 4 (u8 x.n) s
 have hF:(fun s=>opE 4 [u8 x.n] s) s=s1:=by
  rw [HS1.out]
 rw [hF] at hm ⊢
 clear hb0 h0 ho0 hF
 obtain⟨e1,e2,e3⟩:=u8e x
 go_in
 have nc1_2:=S0.cell (.int .i64 x.n) 2 KN rfl
 go_wp2_with fail
 rw [← HW.out]
 have hz1:wl0.heap.size=w.heap.size + 1:=by rw [HW.out];simp
 have hc:=S0.op1 4 (u8 x.n) HS1 (by omega)
 rw [hz1] at hc
 clear hz1
 refine hc.mono ?_
 clear hc
 rintro e wl1 ⟨rfl,S1,f⟩
 go_wp2_with fail
 go_end0
 exact ⟨rfl,S1.k,F0.trans S1.f⟩
theorem V2:BH w0 B kb tv im tm mb ts (fun s=>opE 46 [u8 x.n] (Bw rec (Am ts i) s)) i x 156 #[]:=by
 intro s w A n c base hb0 h0 ho0 hm
 obtain⟨wl0,HW,S0,HO,F0,KN⟩:=CE x hb0 h0 ho0
 obtain⟨s1,HS1,m1⟩:=sL hgr (Am ts i) s
 obtain⟨s2,HS2,m2⟩:=sI 46 (u8 x.n) s1
 have hF:(fun s=>opE 46 [u8 x.n] (Bw rec (Am ts i) s)) s=s2:=by
  rw [HS2.out,HS1.out]
 rw [hF] at hm ⊢
 obtain⟨HR,HKL,HGR⟩:=Hd3 hr hkl hgr
 clear hr hkl hgr hb0 h0 ho0 hF
 obtain⟨e1,e2,e3⟩:=u8e x
 go_in
 have nc1_2:=S0.cell (.int .i64 x.n) 2 KN rfl
 go_wp2_with fail
 rw [← HW.out]
 refine (S0.nodes HGR HKL HR HO HS1 (by omega)).mono ?_
 rintro e wl1 ⟨rfl,S1,f⟩
 have nc2_2:=S1.cell (.int .i64 x.n) 2 KN rfl
 go_wp2_with fail
 refine (S1.op1 46 (u8 x.n) HS2 (by omega)).mono ?_
 rintro e wl2 ⟨rfl,S2,f⟩
 go_wp2_with fail
 go_end0
 exact ⟨rfl,S2.k,F0.trans S2.f⟩
theorem Vy:BH w0 B kb tv im tm mb ts (fun s=>opE 60 [u8 x.n] (Bw rec (Am ts i) s)) i x 157 #[]:=by
 intro s w A n c base hb0 h0 ho0 hm
 obtain⟨wl0,HW,S0,HO,F0,KN⟩:=CE x hb0 h0 ho0
 obtain⟨s1,HS1,m1⟩:=sL hgr (Am ts i) s
 obtain⟨s2,HS2,m2⟩:=sI 60 (u8 x.n) s1
 have hF:(fun s=>opE 60 [u8 x.n] (Bw rec (Am ts i) s)) s=s2:=by
  rw [HS2.out,HS1.out]
 rw [hF] at hm ⊢
 obtain⟨HR,HKL,HGR⟩:=Hd3 hr hkl hgr
 clear hr hkl hgr hb0 h0 ho0 hF
 obtain⟨e1,e2,e3⟩:=u8e x
 go_in
 have nc1_2:=S0.cell (.int .i64 x.n) 2 KN rfl
 go_wp2_with fail
 rw [← HW.out]
 refine (S0.nodes HGR HKL HR HO HS1 (by omega)).mono ?_
 rintro e wl1 ⟨rfl,S1,f⟩
 have nc2_2:=S1.cell (.int .i64 x.n) 2 KN rfl
 go_wp2_with fail
 refine (S1.op1 60 (u8 x.n) HS2 (by omega)).mono ?_
 rintro e wl2 ⟨rfl,S2,f⟩
 go_wp2_with fail
 go_end0
 exact ⟨rfl,S2.k,F0.trans S2.f⟩
theorem Vx:BH w0 B kb tv im tm mb ts (fun s=>opE 5 [u8 x.n] (Bw rec (Am ts i) s)) i x 160 #[]:=by
 intro s w A n c base hb0 h0 ho0 hm
 obtain⟨wl0,HW,S0,HO,F0,KN⟩:=CE x hb0 h0 ho0
 obtain⟨s1,HS1,m1⟩:=sL hgr (Am ts i) s
 obtain⟨s2,HS2,m2⟩:=sI 5 (u8 x.n) s1
 have hF:(fun s=>opE 5 [u8 x.n] (Bw rec (Am ts i) s)) s=s2:=by
  rw [HS2.out,HS1.out]
 rw [hF] at hm ⊢
 obtain⟨HR,HKL,HGR⟩:=Hd3 hr hkl hgr
 clear hr hkl hgr hb0 h0 ho0 hF
 obtain⟨e1,e2,e3⟩:=u8e x
 go_in
 have nc1_2:=S0.cell (.int .i64 x.n) 2 KN rfl
 go_wp2_with fail
 rw [← HW.out]
 refine (S0.nodes HGR HKL HR HO HS1 (by omega)).mono ?_
 rintro e wl1 ⟨rfl,S1,f⟩
 have nc2_2:=S1.cell (.int .i64 x.n) 2 KN rfl
 go_wp2_with fail
 refine (S1.op1 5 (u8 x.n) HS2 (by omega)).mono ?_
 rintro e wl2 ⟨rfl,S2,f⟩
 go_wp2_with fail
 go_end0
 exact ⟨rfl,S2.k,F0.trans S2.f⟩
end
theorem KU {P:Program} {w:World} {ops:Array Oper} {rest:List Oper} {o:Oper} {a:Act} {Q:Exit→Act→World→Prop} {t e:TypeId} {size bytes:Nat} (E:ElT P t e size bytes) (hgd:o.guard=none) (s x:Operand)
  (ho:o.op=.call { callee:=.builtin .append,args:=#[s,x],argTypes:=#[t,t] })
  (base:Nat) (wr:World) (us:List Value) (m:Nat) (hw:w=wr.alloc (.cells us.toArray e)) (v:Value) (n:Nat) (xs:List Value) (hs:a.eval s=v) (hown:wr.ownsRow base e size v n xs)
  (hx:a.eval x=.slice (some ⟨wr.heap.size,0,none⟩) m m) (hus:us.length=m * size) (h1:∀ u∈us,u.oneCell'=true)
  (h63:n + m≤maxLen) (hbytes:(n + m) * bytes≤140737488355328) (hbase:base≤wr.heap.size)
  (h:∀ v' w',w'.ownsRow base e size v' (n + m) (xs ++ us)→wr.grownBy w' v.ownBlock→wpList P ops Q rest (a.put o.dst v') w'):wpList P ops Q (o :: rest) a w:=by
 subst hw
 obtain⟨i,z,hi,hz,hsz,hby,hzc⟩:=E.info
 refine wpList_append_own _ hgd s x t ho base e i z size bytes E.und hi hz hsz hby hzc E.pos v n xs hs (hown.alloc _) ⟨wr.heap.size,0,none⟩ m m us hx (by omega) ?_ h1 h63 hbytes (by simp;omega) fun v' w' h2 h3 _=>h v' w' h2 (FH h3)
 intro j u hj
 have:(wr.alloc (.cells us.toArray e)).cell? ⟨wr.heap.size,j,none⟩=some u:=by
  rw [Blk.cell (Blk.new wr e us.toArray) j]
  simpa using hj
 rw [← this]
 congr 1
 unfold Addr.add
 split <;> simp_all
theorem Tf (n:Int):u8 (n % 256)=u8 n:=by
 simp only [u8,IntKind.wrap,IntKind.bits,IntKind.signed]
 simp
theorem MV (B kb:Nat) (tv iv xv:Value) (b:List Int) (bad:Bool) (m:Nat) (w:World) (h:RKm w B kb tv iv xv b bad) (h1:m≤10000000) (hm:b.length≤2000000) :
  Calls Tryz.prog 117 #[.pointer (some ⟨kb,0,none⟩),.int .i64 m] w fun e w'=>e=.returned (.tuple #[])∧RKm w' B kb tv iv xv (b ++ [hi8 m,u8 m]) bad∧Frm B TR w w':=by
 obtain⟨hB,hks⟩:=h.size
 obtain⟨A,c0,_,k0,o0⟩:=h.open_
 obtain⟨nb,hnb⟩:∃ nb,b.length=nb:=⟨_,rfl⟩
 rw [hnb] at k0 o0 hm
 have hBw:B≤w.heap.size:=by omega
 have d3:w.cell? ⟨kb,3,none⟩=some (.slice A nb c0):=k0.cell 3
 obtain⟨K0,O0,HNB⟩:=Hd3 k0 o0 hnb
 have e1:IntKind.u8.wrap ((m:Int) / 256)=hi8 m:=rfl
 have e2:IntKind.u8.wrap ((m:Int) % 256)=u8 m:=Tf m
 clear h k0 o0 hnb
 go_in
 go_wp2_with (at_builtin;go_loud (refine KU Gp rfl _ _ rfl B w [.int .u8 (hi8 m),.int .u8 (u8 m)] 2 rfl _ _ _ rfl O0.out rfl rfl (by simp [Value.oneCell']) (by unfold maxLen;omega) (by omega) hBw ?_;intro v1 w1 hown1 hg1;obtain⟨A1,c1,rfl⟩:=AJ hown1;obtain⟨_,hc3,hz3⟩:=NI K0.out O0.out hg1;have HO1:=Lh hown1;have HG1:=Lh hg1;clear hown1 hg1))
 go_end0
 exact ⟨rfl,Qj (b':=b ++ [hi8 m,u8 m]) hB hBw K0.out O0.out HG1.out (by have:=HO1.out;rw [List.length_append,HNB.out];simpa [Ba] using this)⟩
section
variable {B kb:Nat} {tv iv xv:Value} {b:List Int} {w:World} {s:MS} (h:RSm w B kb tv iv xv s b)
include h
theorem Hw (m m':Nat) (hmm:s.bad=false→m=m') (h1:m≤10000000) (hm:s.ms≤1000000):Calls Tryz.prog 117 #[.pointer (some ⟨kb,0,none⟩),.int .i64 m] w (RP w B kb tv iv xv s b (E5 [hi8 m',u8 m'] s)):=by
 have hl:=Gb h hm
 refine (MV B kb tv iv xv b s.bad m w h.mem h1 (by omega)).mono ?_
 rintro e w' ⟨rfl,h2,f1⟩
 exact ⟨rfl,_,⟨h2,h.ref.raw _ _ (fun q=>by rw [hmm q]) (Nat.le_refl _)⟩,JUp.raw s b _ _,f1⟩
theorem Qg (hm:s.ms≤1000000):Calls Tryz.prog 117 #[.pointer (some ⟨kb,0,none⟩),.int .i64 0] w fun e w'=>e=.returned (.tuple #[])∧∃ (q:Nat) (b':List Int),b'.length=q + 2∧RSm w' B kb tv iv xv (E5 [0,0] s) b'∧JUp s b (E5 [0,0] s) b'∧Frm B TR w w'∧Jmp (E5 [0,0] s) b' q (E5 [0,0] s).at_:=by
 have hl:=Gb h hm
 refine (MV B kb tv iv xv b s.bad 0 w h.mem (by omega) (by omega)).mono ?_
 rintro e w' ⟨rfl,h2,f1⟩
 have e0:[hi8 ((0:Nat):Int),u8 ((0:Nat):Int)]=[0,0]:=rfl
 rw [e0] at h2
 have hr:=h.ref.raw [0,0] [0,0] (fun _=>rfl) (Nat.le_refl _)
 refine ⟨rfl,b.length,b ++ [0,0],by simp,⟨h2,hr⟩,JUp.raw s b _ _,f1,fun hb=>?_,by simp,by simp [MS.at_,E5]⟩
 have:=h.ref.same hb
 simp [MS.at_,E5,this]
omit h in
theorem RP.then {w w1:World} {s s1 s2:MS} {b b1:List Int} {e:Ending} {w2:World} (j:JUp s b s1 b1) (f:Frm B TR w w1) (h:RP w1 B kb tv iv xv s1 b1 s2 e w2):RP w B kb tv iv xv s b s2 e w2:=by
 obtain⟨h1,b2,h2,h3,h4⟩:=h
 exact ⟨h1,b2,h2,j.trans h3,f.trans h4⟩
theorem Pe (m m':Nat) (hmm:s.bad=false→m=m') (h1:m≤10000000) (hm:s.ms + 1≤1000000):Calls Tryz.prog 171 #[.pointer (some ⟨kb,0,none⟩),.int .i64 m] w (RP w B kb tv iv xv s b (Ec 30 m' s)):=by
 have hop:=F8 30 h (by omega)
 have htw:=fun (w1:World) (b1:List Int) (h2:RSm w1 B kb tv iv xv (opE 30 [] s) b1)=>Hw h2 m m' hmm h1 (by rw [AL];simpa using hm)
 obtain⟨HOP,HTW⟩:=Hd2 hop htw
 clear hop htw h hmm
 go_in
 go_wp2_with fail
 refine HOP.out.mono ?_
 rintro e w1 ⟨rfl,b1,r1,j1,f1⟩
 go_wp2_with fail
 refine (HTW.out w1 b1 r1).mono ?_
 rintro e w2 h2
 rw [QR] at h2
 have h3:=RP.then j1 f1 h2
 obtain⟨rfl,h4⟩:=h3
 have H4:=Lh h4
 clear h2 h4
 go_wp2_with fail
 go_end0
 exact ⟨rfl,H4.out⟩
theorem J8 (c:Int) (hm:s.ms + 1≤1000000):Calls Tryz.prog 50 #[.pointer (some ⟨kb,0,none⟩),.int .u8 c] w fun e w'=>∃ (q:Nat) (b':List Int),e=.returned (.int .i64 q)∧RSm w' B kb tv iv xv (AI c [] s) b'∧JUp s b (AI c [] s) b'∧Frm B TR w w'∧Jmp (AI c [] s) b' q (AI c [] s).at_:=by
 have hl:=Gb h (by omega)
 have hop:=GU B kb tv iv xv b s.bad c [] none 0 0 w h.mem rfl (Gv.none_ _ _) (by omega)
 have htw:=fun (w1:World) (h2:RKm w1 B kb tv iv xv (b ++ c :: [].map u8) s.bad)=>MV B kb tv iv xv _ s.bad 0 w1 h2 (by omega) (by simp;omega)
 have hj:=Jmp.new h.ref c []
 have hrr:=h.ref.raw (c :: ([] ++ [0,0])) (c :: ([] ++ [0,0])) (fun _=>rfl) (Nat.le_refl _)
 have hup:=JUp.raw s b (c :: ([] ++ [0,0])) (c :: ([] ++ [0,0]))
 have eb:(b ++ c :: [].map u8) ++ [hi8 ((0:Nat):Int),u8 ((0:Nat):Int)]=b ++ c :: ([] ++ [0,0]):=by
  have e0:[hi8 ((0:Nat):Int),u8 ((0:Nat):Int)]=[0,0]:=rfl
  rw [e0]
  simp
 simp only [eb] at htw
 have eq:(b ++ c :: ([] ++ [0,0])).length=b.length + 3:=by simp
 have ej:(b ++ c :: ([] ++ [0,0])).length - 2=b.length + 1:=by rw [eq];omega
 rw [ej] at hj
 obtain⟨nb,hnb⟩:∃ nb,b.length=nb:=⟨_,rfl⟩
 rw [hnb] at hj eq hl
 obtain⟨b2,hb2⟩:=Ex0 (b ++ c :: ([] ++ [0,0]))
 rw [← hb2] at hj hrr hup htw eq
 obtain⟨HOP,HTW,HJ,HR,HU,EQ⟩:=Hd6 hop htw hj hrr hup eq
 clear hop htw hj hrr hup eq eb ej h hb2 hnb
 go_in
 go_wp2_with fail
 refine HOP.out.mono ?_
 rintro e w1 ⟨rfl,r1,f1⟩
 obtain⟨F1,R1⟩:=Hd2 f1 r1
 clear f1 r1
 go_wp2_with fail
 refine (HTW.out w1 R1.out).mono ?_
 rintro e w2 ⟨rfl,r2,f2⟩
 obtain⟨A,cc,_,k2,_⟩:=r2.open_
 have d3:w2.cell? ⟨kb,3,none⟩=some (.slice A (nb + 3) cc):=by have:=k2.cell 3;rw [EQ.out] at this;exact this
 obtain⟨F2,R2⟩:=Hd2 (F1.out.trans f2) r2
 clear f2 r2 k2
 go_wp2_with fail
 go_ret
 exact ⟨nb + 1,b2,by go_num,⟨R2.out,HR.out⟩,HU.out,F2.out,HJ.out⟩
theorem J9 (q p:Nat) (j:Jmp s b q p) (hm:s.ms≤1000000):Calls Tryz.prog 53 #[.pointer (some ⟨kb,0,none⟩),.int .i64 q] w (RP w B kb tv iv xv s b (Bq p s)):=by
 have hl:=Gb h (by omega)
 have hq:=j.here
 have hre:=h.ref.here j
 have hup:=JUp.here s b q p (hi8 b.length) (u8 b.length)
 obtain⟨hB,hks⟩:=h.size
 obtain⟨A,cc,_,k0,o0⟩:=h.mem.open_
 obtain⟨L,hL⟩:∃ L,b.length=L:=⟨_,rfl⟩
 rw [hL] at hl hq k0 o0 hre hup
 obtain⟨gb,rfl⟩:∃ gb,A=some ⟨gb,0,none⟩:=by
  obtain⟨g,cap,e,_⟩:=o0.form (by omega)
  injection e with e
  exact ⟨g,e⟩
 have d3:w.cell? ⟨kb,3,none⟩=some (.slice (some ⟨gb,0,none⟩) L cc):=k0.cell 3
 have n4:gb≠kb:=fun e=>AR o0 k0 (by decide) (by rw [← e];rfl)
 have hgb:=(o0.lt gb rfl).1
 obtain⟨v0,hv0⟩:∃ v,(Ba b)[q]? = some v:=⟨_,List.getElem?_eq_getElem (by simp [Ba];omega)⟩
 obtain⟨v1,hv1⟩:∃ v,(Ba b)[q + 1]? = some v:=⟨_,List.getElem?_eq_getElem (by simp [Ba];omega)⟩
 have c0:w.cell? ⟨gb,q,none⟩=some v0:=by rw [o0.cellAt q (by omega),hv0]
 have c1:w.cell? ⟨gb,q + 1,none⟩=some v1:=by rw [o0.cellAt (q + 1) (by omega),hv1]
 have z0:=o0.frozenAt q
 have z1:=o0.frozenAt (q + 1)
 have e1:IntKind.u8.wrap ((L:Int) / 256)=hi8 L:=rfl
 have e2:IntKind.u8.wrap ((L:Int) % 256)=u8 L:=Tf L
 have hpi:(q:Int) < L:=by omega
 have hpi1:(q:Int) + 1 < L:=by omega
 have jp:q < L:=by omega
 have jp1:q + 1 < L:=by omega
 have hps:IntKind.i64.wrap ((q:Int) + 1)=(q:Int) + 1:=IntWalk.i64_in _ (by omega)
 have hp0:(0:Int)≤(q:Int) + 1:=by omega
 have hpt:((q:Int) + 1).toNat=q + 1:=by omega
 have s1:=(((o0.stored q (.int .u8 (hi8 L))).1).stored (q + 1) (.int .u8 (u8 L))).1
 obtain⟨O0,K0,HL,HR,HU,S1⟩:=Hd6 o0 k0 hL hre hup s1
 clear h k0 o0 hL hre hup s1 hv0 hv1
 go_in
 go_wp2_with fail
 go_end0
 obtain⟨W,hW⟩:=Ex0 (((w.setCell ⟨gb,q,none⟩ (.int .u8 (hi8 L))).setCell ⟨gb,q + 1,none⟩ (.int .u8 (u8 L))))
 rw [← hW]
 have S2:=S1.out
 rw [← hW] at S2
 have fr:Frm B TR w W:=by
  obtain⟨g0,cap0,cur,he,hb0,hg0⟩:∃ g0 cap0 cur,(Value.slice (some ⟨gb,0,none⟩) L cc)=.slice (some ⟨g0,0,none⟩) L cap0∧B≤g0∧Blk w g0 5 cur:=by
   rcases O0.out.2 with ⟨h1,h2⟩ | ⟨g0,cap0,cur,h1,h2,h3,_⟩
   ·omega
   ·exact ⟨g0,cap0,cur,h1,h2,h3⟩
  injection he with he
  injection he with he
  injection he with he
  subst he
  rw [hW]
  exact ((Frm.refl B TR w).set_ hg0 hb0 (by decide) _).set_ (hg0.set_ q _) hb0 (by decide) _
 have hbl:((b.set q (hi8 L)).set (q + 1) (u8 L)).length=L:=by rw [List.length_set,List.length_set,HL.out]
 refine ⟨rfl,_,⟨⟨.slice (some ⟨gb,0,none⟩) L cc,hB,?_,?_⟩,HR.out⟩,HU.out,fr⟩
 ·rw [hW]
  exact (K0.out.far (p:=⟨gb,q,none⟩) (Ne.symm n4) _).far (p:=⟨gb,q + 1,none⟩) (Ne.symm n4) _
 ·rw [hbl,← Gk,← Gk]
  exact S2
end
end Go.Proofs.YtmpcbaflcogmmaaGreatDoor
