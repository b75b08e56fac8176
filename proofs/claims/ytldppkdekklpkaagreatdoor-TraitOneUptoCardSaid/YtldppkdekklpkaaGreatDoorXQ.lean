/- Contracts, and the law, for every input. No conditions. -/
import Derived.Test.YtldppkdekklpkaaGreatDoorXB3
import Derived.Test.YtldppkdekklpkaaGreatDoorPAS
import Derived.Test.YtldppkdekklpkaaGreatDoorTK2
set_option linter.all false
open Go Go.AM Go.Proofs
set_option maxRecDepth 100000
namespace XE
noncomputable def fnE (f:Nat) (F:Func):Nat×Func×Code:=(f,F,F.body.getD .skip)
noncomputable def fns:List (Nat×Func×Code):=[fnE 5 Tryz.f5,fnE 7 Tryz.f7,fnE 9 Tryz.f9,fnE 10 Tryz.f10,fnE 11 Tryz.f11,fnE 12 Tryz.f12,fnE 14 Tryz.f14,fnE 15 Tryz.f15,fnE 16 Tryz.f16,fnE 17 Tryz.f17,fnE 18 Tryz.f18,fnE 19 Tryz.f19,fnE 20 Tryz.f20,fnE 21 Tryz.f21,fnE 22 Tryz.f22,fnE 23 Tryz.f23,fnE 24 Tryz.f24,fnE 25 Tryz.f25,fnE 26 Tryz.f26,fnE 27 Tryz.f27,fnE 28 Tryz.f28,fnE 29 Tryz.f29,fnE 30 Tryz.f30,fnE 31 Tryz.f31,fnE 32 Tryz.f32,fnE 33 Tryz.f33,fnE 35 Tryz.f35,fnE 36 Tryz.f36,fnE 37 Tryz.f37,fnE 38 Tryz.f38,fnE 39 Tryz.f39,fnE 40 Tryz.f40,fnE 41 Tryz.f41,fnE 42 Tryz.f42,fnE 43 Tryz.f43,fnE 44 Tryz.f44,fnE 45 Tryz.f45,fnE 46 Tryz.f46,fnE 47 Tryz.f47,fnE 48 Tryz.f48,fnE 49 Tryz.f49,fnE 50 Tryz.f50,fnE 51 Tryz.f51,fnE 52 Tryz.f52,fnE 53 Tryz.f53,fnE 54 Tryz.f54,fnE 55 Tryz.f55,fnE 56 Tryz.f56,fnE 57 Tryz.f57,fnE 58 Tryz.f58,fnE 59 Tryz.f59,fnE 60 Tryz.f60,fnE 61 Tryz.f61,fnE 62 Tryz.f62,fnE 63 Tryz.f63,fnE 64 Tryz.f64,fnE 66 Tryz.f66,fnE 67 Tryz.f67,fnE 68 Tryz.f68,fnE 69 Tryz.f69,fnE 70 Tryz.f70,fnE 71 Tryz.f71,fnE 72 Tryz.f72,fnE 73 Tryz.f73,fnE 74 Tryz.f74,fnE 75 Tryz.f75,fnE 76 Tryz.f76,fnE 77 Tryz.f77,fnE 78 Tryz.f78,fnE 79 Tryz.f79,fnE 80 Tryz.f80,fnE 81 Tryz.f81,fnE 82 Tryz.f82,fnE 83 Tryz.f83,fnE 85 Tryz.f85,fnE 86 Tryz.f86,fnE 87 Tryz.f87,fnE 88 Tryz.f88,fnE 89 Tryz.f89,fnE 90 Tryz.f90,fnE 91 Tryz.f91,fnE 92 Tryz.f92,fnE 93 Tryz.f93,fnE 94 Tryz.f94,fnE 95 Tryz.f95,fnE 96 Tryz.f96,fnE 97 Tryz.f97,fnE 98 Tryz.f98,fnE 99 Tryz.f99,fnE 100 Tryz.f100,fnE 101 Tryz.f101,fnE 102 Tryz.f102,fnE 103 Tryz.f103,fnE 104 Tryz.f104,fnE 105 Tryz.f105,fnE 106 Tryz.f106,fnE 107 Tryz.f107,fnE 108 Tryz.f108,fnE 109 Tryz.f109,fnE 110 Tryz.f110,fnE 112 Tryz.f112,fnE 113 Tryz.f113,fnE 114 Tryz.f114,fnE 115 Tryz.f115,fnE 116 Tryz.f116,fnE 117 Tryz.f117,fnE 118 Tryz.f118,fnE 119 Tryz.f119,fnE 120 Tryz.f120,fnE 121 Tryz.f121,fnE 122 Tryz.f122,fnE 123 Tryz.f123,fnE 124 Tryz.f124,fnE 125 Tryz.f125,fnE 126 Tryz.f126,fnE 127 Tryz.f127,fnE 129 Tryz.f129,fnE 130 Tryz.f130,fnE 131 Tryz.f131,fnE 132 Tryz.f132,fnE 133 Tryz.f133,fnE 134 Tryz.f134,fnE 135 Tryz.f135,fnE 136 Tryz.f136,fnE 137 Tryz.f137,fnE 138 Tryz.f138,fnE 140 Tryz.f140,fnE 141 Tryz.f141,fnE 142 Tryz.f142,fnE 143 Tryz.f143,fnE 144 Tryz.f144,fnE 145 Tryz.f145,fnE 146 Tryz.f146,fnE 147 Tryz.f147,fnE 148 Tryz.f148,fnE 149 Tryz.f149,fnE 150 Tryz.f150,fnE 151 Tryz.f151,fnE 152 Tryz.f152,fnE 153 Tryz.f153,fnE 154 Tryz.f154,fnE 155 Tryz.f155,fnE 156 Tryz.f156,fnE 157 Tryz.f157,fnE 158 Tryz.f158,fnE 159 Tryz.f159,fnE 160 Tryz.f160,fnE 161 Tryz.f161,fnE 162 Tryz.f162,fnE 163 Tryz.f163,fnE 164 Tryz.f164,fnE 165 Tryz.f165,fnE 166 Tryz.f166,fnE 167 Tryz.f167,fnE 168 Tryz.f168,fnE 169 Tryz.f169,fnE 170 Tryz.f170,fnE 172 Tryz.f172,fnE 173 Tryz.f173,fnE 174 Tryz.f174,fnE 176 Tryz.f176,fnE 177 Tryz.f177,fnE 178 Tryz.f178,fnE 180 Tryz.f180,fnE 181 Tryz.f181,fnE 184 Tryz.f184,fnE 185 Tryz.f185,fnE 186 Tryz.f186,fnE 187 Tryz.f187,fnE 188 Tryz.f188,fnE 189 Tryz.f189,fnE 190 Tryz.f190,fnE 192 Tryz.f192,fnE 193 Tryz.f193,fnE 194 Tryz.f194,fnE 195 Tryz.f195,fnE 196 Tryz.f196,fnE 197 Tryz.f197,fnE 198 Tryz.f198,fnE 199 Tryz.f199,fnE 200 Tryz.f200,fnE 201 Tryz.f201,fnE 202 Tryz.f202,fnE 203 Tryz.f203,fnE 204 Tryz.f204,fnE 205 Tryz.f205,fnE 206 Tryz.f206,fnE 207 Tryz.f207,fnE 208 Tryz.f208,fnE 209 Tryz.f209,fnE 210 Tryz.f210,fnE 211 Tryz.f211,fnE 212 Tryz.f212,fnE 213 Tryz.f213,fnE 214 Tryz.f214,fnE 216 Tryz.f216,fnE 217 Tryz.f217,fnE 218 Tryz.f218,fnE 219 Tryz.f219,fnE 221 Tryz.f221,fnE 223 Tryz.f223,fnE 224 Tryz.f224,fnE 225 Tryz.f225,fnE 226 Tryz.f226,fnE 227 Tryz.f227,fnE 228 Tryz.f228,fnE 229 Tryz.f229,fnE 236 Tryz.f236,fnE 237 Tryz.f237,fnE 238 Tryz.f238,fnE 239 Tryz.f239,fnE 240 Tryz.f240,fnE 241 Tryz.f241,fnE 242 Tryz.f242,fnE 244 Tryz.f244,fnE 245 Tryz.f245,fnE 246 Tryz.f246,fnE 247 Tryz.f247,fnE 248 Tryz.f248,fnE 249 Tryz.f249,fnE 250 Tryz.f250,fnE 251 Tryz.f251,fnE 252 Tryz.f252,fnE 253 Tryz.f253,fnE 254 Tryz.f254,fnE 255 Tryz.f255,fnE 256 Tryz.f256,fnE 260 Tryz.f260,fnE 261 Tryz.f261,fnE 262 Tryz.f262,fnE 263 Tryz.f263,fnE 264 Tryz.f264,fnE 265 Tryz.f265,fnE 266 Tryz.f266,fnE 267 Tryz.f267,fnE 268 Tryz.f268,fnE 270 Tryz.f270,fnE 276 Tryz.f276,fnE 277 Tryz.f277,fnE 278 Tryz.f278,fnE 279 Tryz.f279,fnE 280 Tryz.f280,fnE 281 Tryz.f281,fnE 282 Tryz.f282,fnE 285 Tryz.f285,fnE 286 Tryz.f286,fnE 287 Tryz.f287,fnE 288 Tryz.f288,fnE 289 Tryz.f289,fnE 290 Tryz.f290,fnE 291 Tryz.f291,fnE 292 Tryz.f292,fnE 293 Tryz.f293,fnE 294 Tryz.f294,fnE 295 Tryz.f295,fnE 296 Tryz.f296,fnE 298 Tryz.f298,fnE 302 Tryz.f302,fnE 303 Tryz.f303,fnE 307 Tryz.f307,fnE 308 Tryz.f308,fnE 309 Tryz.f309,fnE 310 Tryz.f310,fnE 313 Tryz.f313,fnE 316 Tryz.f316,fnE 317 Tryz.f317,fnE 319 Tryz.f319,fnE 320 Tryz.f320,fnE 321 Tryz.f321,fnE 322 Tryz.f322,fnE 323 Tryz.f323,fnE 324 Tryz.f324,fnE 325 Tryz.f325,fnE 326 Tryz.f326,fnE 327 Tryz.f327,fnE 328 Tryz.f328,fnE 329 Tryz.f329,fnE 330 Tryz.f330]
noncomputable def tyx0:Nat→Option TI:=hint (tyOf Tryz.prog) 98 [1000003]
noncomputable def tyx1:Nat→Option TI:=hint (tyOf Tryz.prog) 58 [9999]
noncomputable def tyx2:Nat→Option TI:=hint (tyOf Tryz.prog) 30 [1000026]
noncomputable def tyx3:Nat→Option TI:=hint (hintZ (tyOf Tryz.prog) 269 [0]) 269 [1000019]
noncomputable def tyx4:Nat→Option TI:=hintZ (tyOf Tryz.prog) 269 [0]
noncomputable def tyx5:Nat→Option TI:=hintZ (tyOf Tryz.prog) 269 [0]
noncomputable def tyx6:Nat→Option TI:=hint (hint (hintZ (tyOf Tryz.prog) 244 [1,1,1,1,3,8,12,1,1,0]) 244 [1000013]) 242 [1000036]
noncomputable def tyf (f:Nat):Nat→Option TI:=match Nat.beq f 60 with|true=>tyx0|false=>match Nat.beq f 19 with|true=>tyx1|false=>match Nat.beq f 105 with|true=>tyx2|false=>match Nat.beq f 154 with|true=>tyx3|false=>match Nat.beq f 248 with|true=>tyx4|false=>match Nat.beq f 207 with|true=>tyx5|false=>match Nat.beq f 115 with|true=>tyx6|false=>tyOf Tryz.prog
def evOk:List Value→Bool
 | [.nilIface]=>true
 | [.iface _ _]=>true
 |_=>false
noncomputable def ext (f:Nat) (a:List AV) (h:Heap):Option (List Nat×Heap×AV):=match Nat.beq f 139 with
 |true=>match a with
  | []=>some ([],[],.p (.sl 1 (TK.wordsL.map TK.eStr)))
  |_=>none
 |false=>match Nat.beq f 179 with
  |true=>match a with
   | [.p (.s ⟨⟨l⟩⟩),.p (.s ⟨⟨[c]⟩⟩)]=>some ([],[],.p (.b (decide (Lib.indexByte l c≥0))))
   |_=>none
  |false=>match Nat.beq f 84 with
   |true=>match a with
    | [.p (.s ⟨⟨l⟩⟩)]=>some ([],[],.p (.b (TK.wordF l)))
    |_=>none
   |false=>match Nat.beq f 191 with
    |true=>match a with
     | [.p (.s ⟨⟨l⟩⟩),.p (.s ⟨⟨[c]⟩⟩)]=>match Nat.beq c.toNat 32&&Nat.ble l.length 1000 with
       |true=>some ([],[],.p (.sl 1 ((TK.splitF 32 l).map TK.eStr)))
       |false=>none
     |_=>none
    |false=>match Nat.beq f 128 with
     |true=>match globs h,a with
      |l::_,[.p (.s ⟨⟨[c]⟩⟩),.p (.i .i64 10),.p (.i .i64 64)]=>match hget h l with
       |some (.glob 1 tab)=>match evOk tab&&PA.okN (Lib.parseIntB 64 [c]) with
        |true=>some ([l],[(l,.glob 1 tab)],.tup [.p (.i .i64 (PA.numV ⟨⟨[c]⟩⟩).1),.ifc (PA.numV ⟨⟨[c]⟩⟩).2])
        |false=>none
       |_=>none
      |_,_=>none
     |false=>match Nat.beq f 65 with
      |true=>match a with
       | [.p x]=>match walkX x with|some r=>some ([],[],r)|none=>none
       |_=>none
      |false=>match Nat.beq f 175 with
       |true=>match a with
        | [.p x]=>match partsX x with|some r=>some ([],[],r)|none=>none
        |_=>none
       |false=>none
noncomputable def lend (f:Nat):Bool:=memB [13,34,35,69,78,79,80,81,104,105,106,107,115,116,124,125,126,127,129,130,131,132,133,134,135,136,137,138,154,157,158,176,177,180,181,184,185,186,187,188,189,190,202,203,205,206,207,208,209,210,211,212,223,224,226,227,228,236,237,238,239,240,241,242,247,248,249,252,253,254,255,277,278,279,280,281,282,289,303,317,323] f
def mxClone (az:List AV) (hs:Heap):Option (AV×Heap):=match az,hs with
 | [.mp 1000000000],[(1000000000,.map .ks es)]=>some (.mp 2,[(2,.map .ks es),(1000000000,.map .ks es)])
 |_,_=>none
noncomputable def mx (f:Nat) (az:List AV) (hs:Heap):Option (AV×Heap):=match Nat.beq f 215 with
 |true=>mxBind az hs
 |false=>match Nat.beq f 171 with
  |true=>mxCat az hs
  |false=>match Nat.beq f 269 with
   |true=>mxClone az hs
   |false=>none
mutual
def eqD:PV→PV→Bool
 |.i k n,.i k' n'=>decide (k=k')&&decide (n=n')
 |.b x,.b y=>beqB x y
 |.s ⟨⟨a⟩⟩,.s ⟨⟨b⟩⟩=>beqL a b
 |.sl z xs,.sl z' ys=>Nat.beq z z'&&eqDs xs ys
 |.agg xs,.agg ys=>eqDs xs ys
 |_,_=>false
def eqDs:List PV→List PV→Bool
 | [],[]=>true
 |x::r,y::r'=>eqD x y&&eqDs r r'
 |_,_=>false
end
def eqA:List AV→List AV→Bool
 | [],[]=>true
 |.p x::r,.p y::r'=>eqD x y&&eqA r r'
 |_,_=>false
def factF (f:Nat) (az:List AV):List (Nat×List AV×AV)→Option AV
 | []=>none
 |(g,bz,r)::q=>match Nat.beq f g with
  |true=>match eqA az bz with
   |true=>some r
   |false=>factF f az q
  |false=>factF f az q
noncomputable def mxF (fx:List (Nat×List AV×AV)) (f:Nat) (az:List AV) (hs:Heap):Option (AV×Heap):=match hs with
 | []=>match factF f az fx with
   |some r=>some (r,[])
   |none=>mx f az []
 |_=>mx f az hs
noncomputable def mem (fx:List (Nat×List AV×AV)) (f:Nat) (args:List AV) (h:Heap):=xmem tyf fns 400 (xrun tyf fns ext lend (mxF fx) 400 40) f args h
theorem fns_ok:∀x∈fns,FnOK Tryz.prog x:=by
 unfold fns
 repeat' refine List.forall_mem_cons.2 ⟨⟨by kernel_rfl,by rfl,by kernel_rfl,by kernel_rfl⟩,?_⟩
 exact List.forall_mem_nil _
end XE
