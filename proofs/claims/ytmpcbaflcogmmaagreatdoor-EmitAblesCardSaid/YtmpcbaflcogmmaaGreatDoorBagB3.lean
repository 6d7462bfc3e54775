/- BagB3 -/
import Derived.Handy
import Derived.Test.YtmpcbaflcogmmaaGreatDoorBagB2
namespace Go.Proofs.YtmpcbaflcogmmaaGreatDoor
open Go.RowKit
set_option linter.all false
set_option maxHeartbeats 4000000
set_option maxRecDepth 100000
section
variable (w:World) (gb:Nat) (v:Value)
theorem L4 (hb:Blk w gb 68 (Dm v)):Calls Tryz.prog 60 #[.pointer (some ⟨gb,0,none⟩)] w fun e w'=>e=.returned (.bool true)∧w=w':=by
 have c1:w.cell? ⟨gb,1,none⟩=some (.slice none 0 0):=hb.cell 1
 clear hb
 go_in
 go_wp2_with fail
 go_rounds 1
 go_rounds 1
 go_rounds 1
 go_ret
 exact ⟨rfl,rfl⟩
theorem JP (hb:Blk w gb 68 (Dm v)):Calls Tryz.prog 61 #[.pointer (some ⟨gb,0,none⟩)] w fun e w'=>e=.returned (.bool true)∧w=w':=by
 have c2:w.cell? ⟨gb,2,none⟩=some (.slice none 0 0):=hb.cell 2
 clear hb
 go_in
 go_wp2_with fail
 go_rounds 1
 go_rounds 1
 go_rounds 1
 go_ret
 exact ⟨rfl,rfl⟩
theorem Ki (hb:Blk w gb 68 (Dm v)):Calls Tryz.prog 62 #[.pointer (some ⟨gb,0,none⟩)] w fun e w'=>e=.returned (.bool true)∧w=w':=by
 have c3:w.cell? ⟨gb,3,none⟩=some (.slice none 0 0):=hb.cell 3
 clear hb
 go_in
 go_wp2_with fail
 go_rounds 1
 go_rounds 1
 go_rounds 1
 go_ret
 exact ⟨rfl,rfl⟩
theorem Jj (hb:Blk w gb 68 (Dm v)):Calls Tryz.prog 63 #[.pointer (some ⟨gb,0,none⟩)] w fun e w'=>e=.returned (.bool true)∧w=w':=by
 have c4:w.cell? ⟨gb,4,none⟩=some (.slice none 0 0):=hb.cell 4
 clear hb
 go_in
 go_wp2_with fail
 go_rounds 1
 go_rounds 1
 go_rounds 1
 go_ret
 exact ⟨rfl,rfl⟩
theorem Ja (hb:Blk w gb 68 (Dm v)):Calls Tryz.prog 64 #[.pointer (some ⟨gb,0,none⟩)] w fun e w'=>e=.returned (.bool true)∧w=w':=by
 have c5:w.cell? ⟨gb,5,none⟩=some (.slice none 0 0):=hb.cell 5
 clear hb
 go_in
 go_wp2_with fail
 go_rounds 1
 go_rounds 1
 go_rounds 1
 go_ret
 exact ⟨rfl,rfl⟩
theorem JY (hb:Blk w gb 68 (Dm v)):Calls Tryz.prog 65 #[.pointer (some ⟨gb,0,none⟩)] w fun e w'=>e=.returned (.bool true)∧w=w':=by
 have c6:w.cell? ⟨gb,6,none⟩=some (.slice none 0 0):=hb.cell 6
 clear hb
 go_in
 go_wp2_with fail
 go_rounds 1
 go_rounds 1
 go_rounds 1
 go_ret
 exact ⟨rfl,rfl⟩
theorem It (hb:Blk w gb 68 (Dm v)):Calls Tryz.prog 66 #[.pointer (some ⟨gb,0,none⟩)] w fun e w'=>e=.returned (.bool true)∧w=w':=by
 have c7:w.cell? ⟨gb,7,none⟩=some (.slice none 0 0):=hb.cell 7
 clear hb
 go_in
 go_wp2_with fail
 go_rounds 1
 go_rounds 1
 go_rounds 1
 go_ret
 exact ⟨rfl,rfl⟩
theorem JQ (hb:Blk w gb 68 (Dm v)):Calls Tryz.prog 67 #[.pointer (some ⟨gb,0,none⟩)] w fun e w'=>e=.returned (.bool true)∧w=w':=by
 have c8:w.cell? ⟨gb,8,none⟩=some (.slice none 0 0):=hb.cell 8
 clear hb
 go_in
 go_wp2_with fail
 go_rounds 1
 go_rounds 1
 go_rounds 1
 go_ret
 exact ⟨rfl,rfl⟩
theorem IZ (hb:Blk w gb 68 (Dm v)):Calls Tryz.prog 68 #[.pointer (some ⟨gb,0,none⟩)] w fun e w'=>e=.returned (.bool true)∧w=w':=by
 have c9:w.cell? ⟨gb,9,none⟩=some (.slice none 0 0):=hb.cell 9
 clear hb
 go_in
 go_wp2_with fail
 go_rounds 1
 go_rounds 1
 go_rounds 1
 go_ret
 exact ⟨rfl,rfl⟩
theorem Kk (hb:Blk w gb 68 (Dm v)):Calls Tryz.prog 69 #[.pointer (some ⟨gb,0,none⟩)] w fun e w'=>e=.returned (.bool true)∧w=w':=by
 have c10:w.cell? ⟨gb,10,none⟩=some (.slice none 0 0):=hb.cell 10
 clear hb
 go_in
 go_wp2_with fail
 go_rounds 1
 go_rounds 1
 go_rounds 1
 go_ret
 exact ⟨rfl,rfl⟩
theorem IX (hb:Blk w gb 68 (Dm v)):Calls Tryz.prog 70 #[.pointer (some ⟨gb,0,none⟩)] w fun e w'=>e=.returned (.bool true)∧w=w':=by
 have c11:w.cell? ⟨gb,11,none⟩=some (.slice none 0 0):=hb.cell 11
 clear hb
 go_in
 go_wp2_with fail
 go_rounds 1
 go_rounds 1
 go_rounds 1
 go_ret
 exact ⟨rfl,rfl⟩
theorem Lr (hb:Blk w gb 68 (Dm v)):Calls Tryz.prog 71 #[.pointer (some ⟨gb,0,none⟩)] w fun e w'=>e=.returned (.bool true)∧w=w':=by
 have c12:w.cell? ⟨gb,12,none⟩=some (.slice none 0 0):=hb.cell 12
 clear hb
 go_in
 go_wp2_with fail
 go_rounds 1
 go_rounds 1
 go_rounds 1
 go_ret
 exact ⟨rfl,rfl⟩
theorem IS (hb:Blk w gb 68 (Dm v)):Calls Tryz.prog 72 #[.pointer (some ⟨gb,0,none⟩)] w fun e w'=>e=.returned (.bool true)∧w=w':=by
 have c13:w.cell? ⟨gb,13,none⟩=some (.slice none 0 0):=hb.cell 13
 clear hb
 go_in
 go_wp2_with fail
 go_rounds 1
 go_rounds 1
 go_rounds 1
 go_ret
 exact ⟨rfl,rfl⟩
theorem Jg (hb:Blk w gb 68 (Dm v)):Calls Tryz.prog 73 #[.pointer (some ⟨gb,0,none⟩)] w fun e w'=>e=.returned (.bool true)∧w=w':=by
 have c14:w.cell? ⟨gb,14,none⟩=some (.slice none 0 0):=hb.cell 14
 clear hb
 go_in
 go_wp2_with fail
 go_rounds 1
 go_rounds 1
 go_rounds 1
 go_ret
 exact ⟨rfl,rfl⟩
theorem Jn (hb:Blk w gb 68 (Dm v)):Calls Tryz.prog 74 #[.pointer (some ⟨gb,0,none⟩)] w fun e w'=>e=.returned (.bool true)∧w=w':=by
 have c15:w.cell? ⟨gb,15,none⟩=some (.slice none 0 0):=hb.cell 15
 clear hb
 go_in
 go_wp2_with fail
 go_rounds 1
 go_rounds 1
 go_rounds 1
 go_ret
 exact ⟨rfl,rfl⟩
theorem Hb (hb:Blk w gb 68 (Dm v)):Calls Tryz.prog 75 #[.pointer (some ⟨gb,0,none⟩)] w fun e w'=>e=.returned (.bool true)∧w=w':=by
 have c16:w.cell? ⟨gb,16,none⟩=some (.slice none 0 0):=hb.cell 16
 clear hb
 go_in
 go_wp2_with fail
 go_rounds 1
 go_rounds 1
 go_rounds 1
 go_ret
 exact ⟨rfl,rfl⟩
theorem Il (hb:Blk w gb 68 (Dm v)):Calls Tryz.prog 76 #[.pointer (some ⟨gb,0,none⟩)] w fun e w'=>e=.returned (.bool true)∧w=w':=by
 have c17:w.cell? ⟨gb,17,none⟩=some (.slice none 0 0):=hb.cell 17
 clear hb
 go_in
 go_wp2_with fail
 go_rounds 1
 go_rounds 1
 go_rounds 1
 go_ret
 exact ⟨rfl,rfl⟩
theorem Iw (hb:Blk w gb 68 (Dm v)):Calls Tryz.prog 77 #[.pointer (some ⟨gb,0,none⟩)] w fun e w'=>e=.returned (.bool true)∧w=w':=by
 have c18:w.cell? ⟨gb,18,none⟩=some (.slice none 0 0):=hb.cell 18
 clear hb
 go_in
 go_wp2_with fail
 go_rounds 1
 go_rounds 1
 go_rounds 1
 go_ret
 exact ⟨rfl,rfl⟩
theorem Kh (hb:Blk w gb 68 (Dm v)):Calls Tryz.prog 78 #[.pointer (some ⟨gb,0,none⟩)] w fun e w'=>e=.returned (.bool true)∧w=w':=by
 have c19:w.cell? ⟨gb,19,none⟩=some (.slice none 0 0):=hb.cell 19
 clear hb
 go_in
 go_wp2_with fail
 go_rounds 1
 go_rounds 1
 go_rounds 1
 go_ret
 exact ⟨rfl,rfl⟩
theorem Jh (hb:Blk w gb 68 (Dm v)):Calls Tryz.prog 79 #[.pointer (some ⟨gb,0,none⟩)] w fun e w'=>e=.returned (.bool true)∧w=w':=by
 have c20:w.cell? ⟨gb,20,none⟩=some (.slice none 0 0):=hb.cell 20
 clear hb
 go_in
 go_wp2_with fail
 go_rounds 1
 go_rounds 1
 go_rounds 1
 go_ret
 exact ⟨rfl,rfl⟩
theorem PK (C N rc:Nat) (A:Option Addr) (L:List Be) (hb:Blk w gb 68 (Dm (.slice A N rc))) (ho:w.ownsRow C 34 1 (.slice A N rc) N (BD L)) (hN:L.length=N) (hN4:N≤400) (hC:C≤w.heap.size) (hLn:∀ x∈L,x.n≤16777216) (hlone:Hr L) (hown:∀ (k:Nat) (x:Be),L[k]? = some x→∃ xs,CO w C x xs) :
  Calls Tryz.prog 22 #[.pointer (some ⟨gb,0,none⟩)] w fun e w'=>e=.returned (.bool true)∧Frm C [5] w w':=by
 have hsm:=Jk w C gb N rc A L hb ho hN hN4 hC hLn hlone hown
 obtain⟨HB,HSM⟩:=Hd2 hb hsm
 clear hb ho hlone hown hLn hsm hN
 go_in
 go_wp2_with fail
 refine HSM.out.mono ?_
 rintro e w1 ⟨rfl,hf⟩
 obtain⟨HF,HB1⟩:=Hd2 hf (hf.blk HB.out (by decide))
 clear hf
 go_wp2_with fail
 refine (L4 _ gb _ HB1.out).mono ?_
 rintro e w9 ⟨rfl,rfl⟩
 go_wp2_with fail
 refine (JP _ gb _ HB1.out).mono ?_
 rintro e w9 ⟨rfl,rfl⟩
 go_wp2_with fail
 refine (Ki _ gb _ HB1.out).mono ?_
 rintro e w9 ⟨rfl,rfl⟩
 go_wp2_with fail
 refine (Jj _ gb _ HB1.out).mono ?_
 rintro e w9 ⟨rfl,rfl⟩
 go_wp2_with fail
 refine (Ja _ gb _ HB1.out).mono ?_
 rintro e w9 ⟨rfl,rfl⟩
 go_wp2_with fail
 refine (JY _ gb _ HB1.out).mono ?_
 rintro e w9 ⟨rfl,rfl⟩
 go_wp2_with fail
 refine (It _ gb _ HB1.out).mono ?_
 rintro e w9 ⟨rfl,rfl⟩
 go_wp2_with fail
 refine (JQ _ gb _ HB1.out).mono ?_
 rintro e w9 ⟨rfl,rfl⟩
 go_wp2_with fail
 refine (IZ _ gb _ HB1.out).mono ?_
 rintro e w9 ⟨rfl,rfl⟩
 go_wp2_with fail
 refine (Kk _ gb _ HB1.out).mono ?_
 rintro e w9 ⟨rfl,rfl⟩
 go_wp2_with fail
 refine (IX _ gb _ HB1.out).mono ?_
 rintro e w9 ⟨rfl,rfl⟩
 go_wp2_with fail
 refine (Lr _ gb _ HB1.out).mono ?_
 rintro e w9 ⟨rfl,rfl⟩
 go_wp2_with fail
 refine (IS _ gb _ HB1.out).mono ?_
 rintro e w9 ⟨rfl,rfl⟩
 go_wp2_with fail
 refine (Jg _ gb _ HB1.out).mono ?_
 rintro e w9 ⟨rfl,rfl⟩
 go_wp2_with fail
 refine (Jn _ gb _ HB1.out).mono ?_
 rintro e w9 ⟨rfl,rfl⟩
 go_wp2_with fail
 refine (Hb _ gb _ HB1.out).mono ?_
 rintro e w9 ⟨rfl,rfl⟩
 go_wp2_with fail
 refine (Il _ gb _ HB1.out).mono ?_
 rintro e w9 ⟨rfl,rfl⟩
 go_wp2_with fail
 refine (Iw _ gb _ HB1.out).mono ?_
 rintro e w9 ⟨rfl,rfl⟩
 go_wp2_with fail
 refine (Kh _ gb _ HB1.out).mono ?_
 rintro e w9 ⟨rfl,rfl⟩
 go_wp2_with fail
 refine (Jh _ gb _ HB1.out).mono ?_
 rintro e w9 ⟨rfl,rfl⟩
 go_wp2_with fail
 go_ret
 exact ⟨rfl,HF.out⟩
end
end Go.Proofs.YtmpcbaflcogmmaaGreatDoor
